/- The walk of lexer.word. -/
import Derived.Test.YtibnpbfggbbchaaDoorLexC
import Derived.Test.YtibnpbfggbbchaaDoorLexS
namespace Go.Proofs.YtibnpbfggbbchaaDoor
open Go.RowKit Go.Lib

theorem e_w1 : ∀ args w, (callFunc 32 args).run Tryd.prog w = .ok (.enter 32 args) w := enters_of Tryd.func32 (by kernel_rfl) rfl
theorem e_w2 : ∀ args w, (callFunc 35 args).run Tryd.prog w = .ok (.enter 35 args) w := enters_of Tryd.func35 (by kernel_rfl) rfl

theorem run1 (s : ByteArray) (w : World) (hs : s.size ≤ maxLen) (hG : Gl w) :
    Calls Tryd.prog 31 #[.string s, .func (.func 32) #[] #[]] w fun e w' => e = .returned (.int .i64 (nameL s.data.toList)) ∧ Below w.heap.size w w' := by
  have h := run_any 32 e_w1 isNm s w hs (fun W i x _ hx hb => w1_any i x hx W (hG.below hb))
  rw [Lib.size_eq] at h
  exact h
theorem run2 (s : ByteArray) (w : World) (hs : s.size ≤ maxLen) :
    Calls Tryd.prog 31 #[.string s, .func (.func 35) #[] #[]] w fun e w' => e = .returned (.int .i64 (digs s.data.toList)) ∧ Below w.heap.size w w' := by
  have h := run_any 35 e_w2 isDg s w hs (fun W i x _ _ _ => w2_any i x W)
  rw [digs_run _ _ _ (by rw [Lib.size_eq]; exact Nat.le_refl _)] at h
  exact h
theorem tr {a b c : World} (h : Below a.heap.size a b) (k : Below b.heap.size b c) : Below a.heap.size a c := h.trans (k.mono h.size)
theorem ret_2i {a b c d : Int} (h : a = b) (k : c = d) : Ending.returned (.tuple #[.int .i64 a, .int .i64 c]) = .returned (.tuple #[.int .i64 b, .int .i64 d]) := by rw [h, k]
theorem getq_nat (s : ByteArray) (n : Nat) (h : n < s.size) (c : Nat) (hc : c < 256) : ((((s[n]'h).toNat : Int) == (c : Int)) = true) ↔ s.data.toList[n]? = some (UInt8.ofNat c) := by
  have e : s.data.toList[n]? = some (s[n]'h) := by
    rw [List.getElem?_eq_getElem (by rw [← Lib.size_eq]; exact h)]
    rfl
  rw [e]
  simp only [beq_iff_eq, Option.some.injEq]
  constructor
  · intro h1
    apply UInt8.toNat_inj.1
    simp
    omega
  · intro h1
    rw [h1]
    simp
    omega
theorem numL_eq (l : List UInt8) (n k : Nat) (hn : digs l = n) (hk : digs (l.drop (n + 1)) = k) (h2 : 0 < n) : numL l = if l[n]? = some 46 ∧ 0 < k then n + (1 + k) else n := by
  unfold numL
  rw [hn, hk, if_neg (by omega), List.head?_drop]
theorem digs_le (l : List UInt8) : digs l ≤ l.length := by
  unfold digs
  exact (List.takeWhile_sublist _).length_le
theorem nameL_le (l : List UInt8) : nameL l ≤ l.length := runL_le _ _ _ _

set_option maxHeartbeats 1000000 in
theorem word_name (s : ByteArray) (w : World) (hs : s.size ≤ maxLen) (hG : Gl w) (h : 0 < nameL s.data.toList) :
    Calls Tryd.prog 21 #[.string s] w fun e w' => e = .returned (.tuple #[.int .i64 (wordL s.data.toList).1, .int .i64 (wordL s.data.toList).2]) ∧ Below w.heap.size w w' := by
  have hw : wordL s.data.toList = (0, nameL s.data.toList) := by simp [wordL, h]
  rw [hw]
  have c1 := run1 s w hs hG
  have hle := nameL_le s.data.toList
  obtain ⟨n, hn⟩ : ∃ n, nameL s.data.toList = n := ⟨_, rfl⟩
  rw [hn] at c1 h ⊢
  clear hn hw hG hs hle
  go_enter Tryd.func21, Tryd.ntmps21
  go_wp2_with (first | (go_at_call 31; refine c1.mono ?_; rintro e w' ⟨rfl, hb⟩))
  go_ret2
  exact ⟨rfl, hb⟩

set_option maxHeartbeats 1000000 in
set_option maxRecDepth 100000 in
theorem word_num (s : ByteArray) (w : World) (hs : s.size ≤ maxLen) (hG : Gl w) (h : nameL s.data.toList = 0) (h2 : 0 < digs s.data.toList) :
    Calls Tryd.prog 21 #[.string s] w fun e w' => e = .returned (.tuple #[.int .i64 (wordL s.data.toList).1, .int .i64 (wordL s.data.toList).2]) ∧ Below w.heap.size w w' := by
  have hw : wordL s.data.toList = (1, numL s.data.toList) := by
    have : 0 < numL s.data.toList := by unfold numL; rw [if_neg (by omega)]; split <;> omega
    simp [wordL, h, this]
  rw [hw]
  have c1 := run1 s w hs hG
  rw [h] at c1
  have c2 := fun W => run2 s W hs
  have hle := digs_le s.data.toList
  rw [← Lib.size_eq] at hle
  have c3 := fun W => run2 (s.extract (digs s.data.toList + 1) s.size) W (Nat.le_trans (by rw [Lib.size_eq (s.extract _ _), Lib.extract_to_end, List.length_drop, ← Lib.size_eq]; omega) hs)
  rw [Lib.extract_to_end] at c3
  unfold maxLen at hs
  have he := numL_eq s.data.toList _ _ rfl rfl h2
  obtain ⟨M, hM⟩ : ∃ M, numL s.data.toList = M := ⟨_, rfl⟩
  rw [hM] at he ⊢
  obtain ⟨n, hn⟩ : ∃ n, digs s.data.toList = n := ⟨_, rfl⟩
  rw [hn] at c2 c3 h2 hle he
  have hk := digs_le (s.data.toList.drop (n + 1))
  rw [List.length_drop, ← Lib.size_eq] at hk
  obtain ⟨k, hk2⟩ : ∃ k, digs (s.data.toList.drop (n + 1)) = k := ⟨_, rfl⟩
  rw [hk2] at c3 hk he
  have HE := Lib.hid he
  have hdot := getq_nat s n
  have HD := Lib.hid hdot
  clear hn hk2 hw hG h hM he hdot
  go_enter Tryd.func21, Tryd.ntmps21
  go_wp2_with (first | (go_at_call 31; (with_reducible refine (c1).mono ?_); rintro e w1 ⟨rfl, hb⟩) | (go_at_call 31; (with_reducible refine (c2 _).mono ?_); rintro e w2 ⟨rfl, hb2⟩) | (go_at_call 31; (with_reducible refine (c3 _).mono ?_); rintro e w3 ⟨rfl, hb3⟩))
  · have a1 : n < s.size := by assumption
    have a2 := (HD.out a1 46 (by omega)).1 (by assumption)
    have a3 : 0 < k := by assumption
    go_ret2
    exact ⟨ret_2i rfl (by rw [HE.out, if_pos ⟨a2, a3⟩]; simp), tr (tr hb hb2) hb3⟩
  · have a3 : ¬ 0 < k := by assumption
    go_ret2
    exact ⟨ret_2i rfl (by rw [HE.out, if_neg (fun h => a3 h.2)]), tr (tr hb hb2) hb3⟩
  · have a1 : n < s.size := by assumption
    have a2 : ((((s[n]'a1).toNat : Int) == (46 : Nat)) = false) := by assumption
    go_ret2
    exact ⟨ret_2i rfl (by rw [HE.out, if_neg (fun h => by have := (HD.out a1 46 (by omega)).2 h.1; rw [a2] at this; cases this)]), tr hb hb2⟩
  · have a1 : ¬ n < s.size := by assumption
    go_ret2
    exact ⟨ret_2i rfl (by rw [HE.out, if_neg (fun h => a1 (by have := (List.getElem?_eq_some_iff.1 h.1).1; rw [← Lib.size_eq] at this; exact this))]), tr hb hb2⟩

theorem signIn_step (l : List UInt8) (k : Nat) (hk : k < 24) : signIn l (signs.drop k) = if Lib.hasPrefix l (signs.getD k []) then (signs.getD k []).length else signIn l (signs.drop (k + 1)) := by
  have hl : k < signs.length := hk
  rw [List.drop_eq_getElem_cons hl]
  have e : signs.getD k [] = signs[k] := by simp [hl]
  rw [e]
  rfl
theorem signs_pos : ∀ k, k < 24 → 0 < (signs.getD k []).length := by decide
theorem signs_le : ∀ k, k < 24 → (signs.getD k []).length ≤ 2 := by decide

set_option maxHeartbeats 1000000 in
set_option maxRecDepth 100000 in
theorem word_sign (s : ByteArray) (w : World) (hs : s.size ≤ maxLen) (hG : Gl w) (h : nameL s.data.toList = 0) (h2 : digs s.data.toList = 0) :
    Calls Tryd.prog 21 #[.string s] w fun e w' => e = .returned (.tuple #[.int .i64 (wordL s.data.toList).1, .int .i64 (wordL s.data.toList).2]) ∧ Below w.heap.size w w' := by
  have hw : wordL s.data.toList = if 0 < signIn s.data.toList signs then (2, signIn s.data.toList signs) else (0, 0) := by
    have : numL s.data.toList = 0 := by unfold numL; rw [if_pos h2]
    simp only [wordL, h, this, signL]
    rfl
  obtain ⟨M, hM⟩ : ∃ M, wordL s.data.toList = M := ⟨_, rfl⟩
  rw [hM] at hw ⊢
  have c1 := run1 s w hs hG
  rw [h] at c1
  have c2 := fun W => run2 s W hs
  rw [h2] at c2
  have cS := signs_any
  have cH := fun k W => Tryd.strings_HasPrefix s ⟨(signs.getD k []).toArray⟩ W
  have HW := Lib.hid hw
  have hi := idx_signs
  clear hw hM hG h h2
  go_enter Tryd.func21, Tryd.ntmps21
  go_wp2_with (first | (go_at_call 31; (with_reducible refine (c1).mono ?_); rintro e w1 ⟨rfl, hb⟩) | (go_at_call 31; (with_reducible refine (c2 _).mono ?_); rintro e w2 ⟨rfl, hb2⟩) | (go_at_call 36; refine (cS _).mono ?_; rintro e w3 ⟨rfl, hb3⟩))
  go_loop [42] (fun i => ∃ k : Nat, k ≤ 24 ∧ i = .int .i64 k ∧ Hid (signIn s.data.toList (signs.drop k) = signIn s.data.toList signs)) (fun i => 24 - (intOf i).toNat)
  case atStart => exact ⟨0, by omega, rfl, rfl⟩
  case round =>
    obtain ⟨k, hk, rfl, hS⟩ := hrel
    by_cases hlt : k < 24
    · have hx := hi w3 k hlt
      have cP := cH k w3
      have hst := signIn_step s.data.toList k hlt
      have hps := signs_pos k hlt
      have hsz : (⟨(signs.getD k []).toArray⟩ : ByteArray).size = (signs.getD k []).length := by simp [ByteArray.size]
      obtain ⟨T, hT⟩ : ∃ T : ByteArray, T = ⟨(signs.getD k []).toArray⟩ := ⟨_, rfl⟩
      rw [← hT] at hx cP hsz
      rw [← hsz] at hst hps
      cases hp : Lib.hasPrefix s.data.toList (signs.getD k []) <;> rw [hp] at cP hst <;> simp only [if_true, Bool.false_eq_true, if_false] at hst
      · have HS := Lib.hid hst
        clear hst hsz hT hp hi cH
        go_wp2_with (first | (go_at_call 37; (with_reducible refine cP.mono ?_); rintro e w4 ⟨rfl, rfl⟩))
        go_round
        case rel => exact ⟨k + 1, by omega, by go_num, by rw [← hS.out, HS.out]; rfl⟩
        case measure => simp [intOf]; omega
      · have HS := Lib.hid hst
        have hszs : T.size ≤ 2 := by rw [hsz]; exact signs_le k hlt
        clear hst hsz hT hp hi cH
        go_wp2_with (first | (go_at_call 37; (with_reducible refine cP.mono ?_); rintro e w4 ⟨rfl, rfl⟩))
        go_ret2
        have e : M = (2, T.size) := by rw [HW.out, ← hS.out, HS.out, if_pos hps]
        exact ⟨ret_2i (by rw [e]; rfl) (by rw [e]), tr (tr hb hb2) hb3⟩
    · have hk24 : k = 24 := by omega
      have e : M = (0, 0) := by rw [HW.out, ← hS.out, hk24]; rfl
      clear hi cH hk24
      have HE := Lib.hid e
      clear e
      go_wp2
      go_ret2
      exact ⟨ret_2i (by rw [HE.out]; rfl) (by rw [HE.out]; rfl), tr (tr hb hb2) hb3⟩

theorem word_any (s : ByteArray) (w : World) (hs : s.size ≤ maxLen) (hG : Gl w) :
    Calls Tryd.prog 21 #[.string s] w fun e w' => e = .returned (.tuple #[.int .i64 (wordL s.data.toList).1, .int .i64 (wordL s.data.toList).2]) ∧ Below w.heap.size w w' := by
  rcases Nat.eq_zero_or_pos (nameL s.data.toList) with h | h
  · rcases Nat.eq_zero_or_pos (digs s.data.toList) with h2 | h2
    · exact word_sign s w hs hG h h2
    · exact word_num s w hs hG h h2
  · exact word_name s w hs hG h
end Go.Proofs.YtibnpbfggbbchaaDoor
