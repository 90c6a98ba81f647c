/- lexer.signs hands its 24 signs over. The walk of lexer.word. The walks of lexer.skip and lexer.Name. The walks of lexer.Name, of the reference's first, digit, name. The walk of the reference's number. The walk of the reference's sign. -/
import Derived.Test.YtpbkeamjdolpgaaGreatDoorB04
import Derived.Deep.WholeRow
import Derived.Great.BuildSlice
namespace Go.Proofs.YtpbkeamjdolpgaaGreatDoor
open Go.RowKit Go.Lib

def signArr : Array Value := #[.string ⟨#[124, 124]⟩, .string ⟨#[38, 38]⟩, .string ⟨#[60, 61]⟩, .string ⟨#[61, 61]⟩, .string ⟨#[33, 61]⟩, .string ⟨#[62, 61]⟩, .string ⟨#[43]⟩, .string ⟨#[45]⟩, .string ⟨#[42]⟩, .string ⟨#[47]⟩, .string ⟨#[60]⟩, .string ⟨#[62]⟩, .string ⟨#[33]⟩, .string ⟨#[63]⟩, .string ⟨#[58]⟩, .string ⟨#[44]⟩, .string ⟨#[59]⟩, .string ⟨#[61]⟩, .string ⟨#[40]⟩, .string ⟨#[41]⟩, .string ⟨#[91]⟩, .string ⟨#[93]⟩, .string ⟨#[123]⟩, .string ⟨#[125]⟩]
theorem idx_signs (w : World) : ∀ (k : Nat), k < 24 → (Instr.index 159 (.agg signArr) (.int .i64 (k : Int))).run Tryz.prog w = .ok (.string ⟨(signs.getD k []).toArray⟩) w
  | 0, _ => by kernel_rfl
  | 1, _ => by kernel_rfl
  | 2, _ => by kernel_rfl
  | 3, _ => by kernel_rfl
  | 4, _ => by kernel_rfl
  | 5, _ => by kernel_rfl
  | 6, _ => by kernel_rfl
  | 7, _ => by kernel_rfl
  | 8, _ => by kernel_rfl
  | 9, _ => by kernel_rfl
  | 10, _ => by kernel_rfl
  | 11, _ => by kernel_rfl
  | 12, _ => by kernel_rfl
  | 13, _ => by kernel_rfl
  | 14, _ => by kernel_rfl
  | 15, _ => by kernel_rfl
  | 16, _ => by kernel_rfl
  | 17, _ => by kernel_rfl
  | 18, _ => by kernel_rfl
  | 19, _ => by kernel_rfl
  | 20, _ => by kernel_rfl
  | 21, _ => by kernel_rfl
  | 22, _ => by kernel_rfl
  | 23, _ => by kernel_rfl
  | n + 24, h => absurd h (by omega)
def signOld : Array Value := #[.string ⟨#[]⟩, .string ⟨#[]⟩, .string ⟨#[]⟩, .string ⟨#[]⟩, .string ⟨#[]⟩, .string ⟨#[]⟩, .string ⟨#[]⟩, .string ⟨#[]⟩, .string ⟨#[]⟩, .string ⟨#[]⟩, .string ⟨#[]⟩, .string ⟨#[]⟩, .string ⟨#[]⟩, .string ⟨#[]⟩, .string ⟨#[]⟩, .string ⟨#[]⟩, .string ⟨#[]⟩, .string ⟨#[]⟩, .string ⟨#[]⟩, .string ⟨#[]⟩, .string ⟨#[]⟩, .string ⟨#[]⟩, .string ⟨#[]⟩, .string ⟨#[]⟩]
theorem sz_signs : (Tryz.prog.info? 159).map (·.size) = some signArr.size := by kernel_rfl
theorem one_signs : signArr.all (·.oneCell') = true := by kernel_rfl
set_option maxHeartbeats 1000000 in
theorem lsigns_any (w : World) : Calls Tryz.prog 124 #[] w fun e w' => e = .returned (.agg signArr) ∧ Below w.heap.size w w' := by
  go_enter Tryz.func124, Tryz.ntmps124
  go_wp2_with (refine wpList_store_rowTo rfl 159 (.tmp 0) (.tmp 1) rfl rfl w.heap.size signArr rfl rfl 159 signOld (heap_alloc_last w _) sz_signs rfl one_signs ?_; rw [World.setRow_alloc_new])
  exact bodyPost_ret (v := .agg signArr) (results_cell_row rfl _ _ w.heap.size 159 signArr (0, 0) _ rfl (heap_alloc_last w _) Tryz.underlying159 rfl sz_signs) rfl ⟨rfl, (Below.refl _ _).alloc (Nat.le_refl _) _⟩
end Go.Proofs.YtpbkeamjdolpgaaGreatDoor
namespace Go.Proofs.YtpbkeamjdolpgaaGreatDoor
open Go.RowKit Go.Lib

theorem e_w1 : ∀ args w, (callFunc 120 args).run Tryz.prog w = .ok (.enter 120 args) w := enters_of Tryz.func120 (by kernel_rfl) rfl
theorem e_w2 : ∀ args w, (callFunc 123 args).run Tryz.prog w = .ok (.enter 123 args) w := enters_of Tryz.func123 (by kernel_rfl) rfl

theorem run1 (s : ByteArray) (w : World) (hs : s.size ≤ maxLen) (hG : Gl w) :
    Calls Tryz.prog 119 #[.string s, .func (.func 120) #[] #[]] w fun e w' => e = .returned (.int .i64 (nameL s.data.toList)) ∧ Below w.heap.size w w' := by
  have h := run_any 120 e_w1 isNm s w hs (fun W i x _ hx hb => w1_any i x hx W (hG.below hb))
  rw [Lib.size_eq] at h
  exact h
theorem run2 (s : ByteArray) (w : World) (hs : s.size ≤ maxLen) :
    Calls Tryz.prog 119 #[.string s, .func (.func 123) #[] #[]] w fun e w' => e = .returned (.int .i64 (digs s.data.toList)) ∧ Below w.heap.size w w' := by
  have h := run_any 123 e_w2 isDg s w hs (fun W i x _ _ _ => w2_any i x W)
  rw [digs_run _ _ _ (by rw [Lib.size_eq]; exact Nat.le_refl _)] at h
  exact h
theorem ret_2i {a b c d : Int} (h : a = b) (k : c = d) : Ending.returned (.tuple #[.int .i64 a, .int .i64 c]) = .returned (.tuple #[.int .i64 b, .int .i64 d]) := by rw [h, k]
theorem getq_nat (s : ByteArray) (n : Nat) (h : n < s.size) (c : Nat) (hc : c < 256) : ((((s[n]'h).toNat : Int) == (c : Int)) = true) ↔ s.data.toList[n]? = some (UInt8.ofNat c) := by
  have e : s.data.toList[n]? = some (s[n]'h) := by
    rw [List.getElem?_eq_getElem (by rw [← Lib.size_eq]; exact h)]
    rfl
  rw [e]
  simp only [beq_iff_eq, Option.some.injEq]
  constructor
  · intro h1
    apply UInt8.toNat_inj.1
    simp
    omega
  · intro h1
    rw [h1]
    simp
    omega
theorem numL_eq (l : List UInt8) (n k : Nat) (hn : digs l = n) (hk : digs (l.drop (n + 1)) = k) (h2 : 0 < n) : numL l = if l[n]? = some 46 ∧ 0 < k then n + (1 + k) else n := by
  unfold numL
  rw [hn, hk, if_neg (by omega), List.head?_drop]
theorem digs_le (l : List UInt8) : digs l ≤ l.length := by
  unfold digs
  exact (List.takeWhile_sublist _).length_le
theorem nameL_le (l : List UInt8) : nameL l ≤ l.length := runL_le _ _ _ _

set_option maxHeartbeats 1000000 in
theorem word_name (s : ByteArray) (w : World) (hs : s.size ≤ maxLen) (hG : Gl w) (h : 0 < nameL s.data.toList) :
    Calls Tryz.prog 64 #[.string s] w fun e w' => e = .returned (.tuple #[.int .i64 (wordL s.data.toList).1, .int .i64 (wordL s.data.toList).2]) ∧ Below w.heap.size w w' := by
  have hw : wordL s.data.toList = (0, nameL s.data.toList) := by simp [wordL, h]
  rw [hw]
  have c1 := run1 s w hs hG
  have hle := nameL_le s.data.toList
  obtain ⟨n, hn⟩ : ∃ n, nameL s.data.toList = n := ⟨_, rfl⟩
  rw [hn] at c1 h ⊢
  clear hn hw hG hs hle
  go_enter Tryz.func64, Tryz.ntmps64
  go_wp2_with (first | (go_at_call 119; refine c1.mono ?_; rintro e w' ⟨rfl, hb⟩))
  go_ret2
  exact ⟨rfl, hb⟩

set_option maxHeartbeats 1000000 in
set_option maxRecDepth 100000 in
theorem word_num (s : ByteArray) (w : World) (hs : s.size ≤ maxLen) (hG : Gl w) (h : nameL s.data.toList = 0) (h2 : 0 < digs s.data.toList) :
    Calls Tryz.prog 64 #[.string s] w fun e w' => e = .returned (.tuple #[.int .i64 (wordL s.data.toList).1, .int .i64 (wordL s.data.toList).2]) ∧ Below w.heap.size w w' := by
  have hw : wordL s.data.toList = (1, numL s.data.toList) := by
    have : 0 < numL s.data.toList := by unfold numL; rw [if_neg (by omega)]; split <;> omega
    simp [wordL, h, this]
  rw [hw]
  have c1 := run1 s w hs hG
  rw [h] at c1
  have c2 := fun W => run2 s W hs
  have hle := digs_le s.data.toList
  rw [← Lib.size_eq] at hle
  have c3 := fun W => run2 (s.extract (digs s.data.toList + 1) s.size) W (Nat.le_trans (by rw [Lib.size_eq (s.extract _ _), Lib.extract_to_end, List.length_drop, ← Lib.size_eq]; omega) hs)
  rw [Lib.extract_to_end] at c3
  unfold maxLen at hs
  have he := numL_eq s.data.toList _ _ rfl rfl h2
  obtain ⟨M, hM⟩ : ∃ M, numL s.data.toList = M := ⟨_, rfl⟩
  rw [hM] at he ⊢
  obtain ⟨n, hn⟩ : ∃ n, digs s.data.toList = n := ⟨_, rfl⟩
  rw [hn] at c2 c3 h2 hle he
  have hk := digs_le (s.data.toList.drop (n + 1))
  rw [List.length_drop, ← Lib.size_eq] at hk
  obtain ⟨k, hk2⟩ : ∃ k, digs (s.data.toList.drop (n + 1)) = k := ⟨_, rfl⟩
  rw [hk2] at c3 hk he
  have HE := Lib.hid he
  have hdot := getq_nat s n
  have HD := Lib.hid hdot
  clear hn hk2 hw hG h hM he hdot
  go_enter Tryz.func64, Tryz.ntmps64
  go_wp2_with (first | (go_at_call 119; (with_reducible refine (c1).mono ?_); rintro e w1 ⟨rfl, hb⟩) | (go_at_call 119; (with_reducible refine (c2 _).mono ?_); rintro e w2 ⟨rfl, hb2⟩) | (go_at_call 119; (with_reducible refine (c3 _).mono ?_); rintro e w3 ⟨rfl, hb3⟩))
  · have a1 : n < s.size := by assumption
    have a2 := (HD.out a1 46 (by omega)).1 (by assumption)
    have a3 : 0 < k := by assumption
    go_ret2
    exact ⟨ret_2i rfl (by rw [HE.out, if_pos ⟨a2, a3⟩]; simp), tr (tr hb hb2) hb3⟩
  · have a3 : ¬ 0 < k := by assumption
    go_ret2
    exact ⟨ret_2i rfl (by rw [HE.out, if_neg (fun h => a3 h.2)]), tr (tr hb hb2) hb3⟩
  · have a1 : n < s.size := by assumption
    have a2 : ((((s[n]'a1).toNat : Int) == (46 : Nat)) = false) := by assumption
    go_ret2
    exact ⟨ret_2i rfl (by rw [HE.out, if_neg (fun h => by have := (HD.out a1 46 (by omega)).2 h.1; rw [a2] at this; cases this)]), tr hb hb2⟩
  · have a1 : ¬ n < s.size := by assumption
    go_ret2
    exact ⟨ret_2i rfl (by rw [HE.out, if_neg (fun h => a1 (by have := (List.getElem?_eq_some_iff.1 h.1).1; rw [← Lib.size_eq] at this; exact this))]), tr hb hb2⟩

theorem signIn_step (l : List UInt8) (k : Nat) (hk : k < 24) : signIn l (signs.drop k) = if Lib.hasPrefix l (signs.getD k []) then (signs.getD k []).length else signIn l (signs.drop (k + 1)) := by
  have hl : k < signs.length := hk
  rw [List.drop_eq_getElem_cons hl]
  have e : signs.getD k [] = signs[k] := by simp [hl]
  rw [e]
  rfl
theorem signs_pos : ∀ k, k < 24 → 0 < (signs.getD k []).length := by decide
theorem signs_le : ∀ k, k < 24 → (signs.getD k []).length ≤ 2 := by decide

set_option maxHeartbeats 1000000 in
set_option maxRecDepth 100000 in
theorem word_sign (s : ByteArray) (w : World) (hs : s.size ≤ maxLen) (hG : Gl w) (h : nameL s.data.toList = 0) (h2 : digs s.data.toList = 0) :
    Calls Tryz.prog 64 #[.string s] w fun e w' => e = .returned (.tuple #[.int .i64 (wordL s.data.toList).1, .int .i64 (wordL s.data.toList).2]) ∧ Below w.heap.size w w' := by
  have hw : wordL s.data.toList = if 0 < signIn s.data.toList signs then (2, signIn s.data.toList signs) else (0, 0) := by
    have : numL s.data.toList = 0 := by unfold numL; rw [if_pos h2]
    simp only [wordL, h, this, signL]
    rfl
  obtain ⟨M, hM⟩ : ∃ M, wordL s.data.toList = M := ⟨_, rfl⟩
  rw [hM] at hw ⊢
  have c1 := run1 s w hs hG
  rw [h] at c1
  have c2 := fun W => run2 s W hs
  rw [h2] at c2
  have cS := lsigns_any
  have cH := fun k W => Tryz.strings_HasPrefix s ⟨(signs.getD k []).toArray⟩ W
  have HW := Lib.hid hw
  have hi := idx_signs
  clear hw hM hG h h2
  go_enter Tryz.func64, Tryz.ntmps64
  go_wp2_with (first | (go_at_call 119; (with_reducible refine (c1).mono ?_); rintro e w1 ⟨rfl, hb⟩) | (go_at_call 119; (with_reducible refine (c2 _).mono ?_); rintro e w2 ⟨rfl, hb2⟩) | (go_at_call 124; refine (cS _).mono ?_; rintro e w3 ⟨rfl, hb3⟩))
  go_loop [42] (fun i => ∃ k : Nat, k ≤ 24 ∧ i = .int .i64 k ∧ Hid (signIn s.data.toList (signs.drop k) = signIn s.data.toList signs)) (fun i => 24 - (RowKit.intOf i).toNat)
  case atStart => exact ⟨0, by omega, rfl, rfl⟩
  case round =>
    obtain ⟨k, hk, rfl, hS⟩ := hrel
    by_cases hlt : k < 24
    · have hx := hi w3 k hlt
      have cP := cH k w3
      have hst := signIn_step s.data.toList k hlt
      have hps := signs_pos k hlt
      have hsz : (⟨(signs.getD k []).toArray⟩ : ByteArray).size = (signs.getD k []).length := by simp [ByteArray.size]
      obtain ⟨T, hT⟩ : ∃ T : ByteArray, T = ⟨(signs.getD k []).toArray⟩ := ⟨_, rfl⟩
      rw [← hT] at hx cP hsz
      rw [← hsz] at hst hps
      cases hp : Lib.hasPrefix s.data.toList (signs.getD k []) <;> rw [hp] at cP hst <;> simp only [if_true, Bool.false_eq_true, if_false] at hst
      · have HS := Lib.hid hst
        clear hst hsz hT hp hi cH
        go_wp2_with (first | (go_at_call 71; (with_reducible refine cP.mono ?_); rintro e w4 ⟨rfl, rfl⟩))
        go_round
        case rel => exact ⟨k + 1, by omega, by go_num, by rw [← hS.out, HS.out]; rfl⟩
        case measure => simp [RowKit.intOf]; omega
      · have HS := Lib.hid hst
        have hszs : T.size ≤ 2 := by rw [hsz]; exact signs_le k hlt
        clear hst hsz hT hp hi cH
        go_wp2_with (first | (go_at_call 71; (with_reducible refine cP.mono ?_); rintro e w4 ⟨rfl, rfl⟩))
        go_ret2
        have e : M = (2, T.size) := by rw [HW.out, ← hS.out, HS.out, if_pos hps]
        exact ⟨ret_2i (by rw [e]; rfl) (by rw [e]), tr (tr hb hb2) hb3⟩
    · have hk24 : k = 24 := by omega
      have e : M = (0, 0) := by rw [HW.out, ← hS.out, hk24]; rfl
      clear hi cH hk24
      have HE := Lib.hid e
      clear e
      go_wp2
      go_ret2
      exact ⟨ret_2i (by rw [HE.out]; rfl) (by rw [HE.out]; rfl), tr (tr hb hb2) hb3⟩

theorem word_any (s : ByteArray) (w : World) (hs : s.size ≤ maxLen) (hG : Gl w) :
    Calls Tryz.prog 64 #[.string s] w fun e w' => e = .returned (.tuple #[.int .i64 (wordL s.data.toList).1, .int .i64 (wordL s.data.toList).2]) ∧ Below w.heap.size w w' := by
  rcases Nat.eq_zero_or_pos (nameL s.data.toList) with h | h
  · rcases Nat.eq_zero_or_pos (digs s.data.toList) with h2 | h2
    · exact word_sign s w hs hG h h2
    · exact word_num s w hs hG h h2
  · exact word_name s w hs hG h
end Go.Proofs.YtpbkeamjdolpgaaGreatDoor
namespace Go.Proofs.YtpbkeamjdolpgaaGreatDoor
open Go.RowKit Go.Lib

theorem indexByte_ge (l : List UInt8) (c : UInt8) : Lib.indexByte l c = -1 ∨ 0 ≤ Lib.indexByte l c := by
  induction l with
  | nil => left; rfl
  | cons b l ih =>
    unfold Lib.indexByte
    split
    · right; omega
    · split
      · left; rfl
      · right; rename_i h; simp at h; omega
theorem indexByte_lt (l : List UInt8) (c : UInt8) : Lib.indexByte l c < l.length := by
  induction l with
  | nil => simp [Lib.indexByte]
  | cons b l ih =>
    unfold Lib.indexByte
    split
    · simp
    · split
      · simp only [List.length_cons]; omega
      · simp only [List.length_cons]; omega
theorem bl_index (c : UInt8) : isBl c = decide (Lib.indexByte [32, 9, 10, 13] c ≥ 0) := by
  unfold isBl
  simp only [Lib.indexByte]
  by_cases h1 : (32 : UInt8) = c
  · subst h1; rfl
  by_cases h2 : (9 : UInt8) = c
  · subst h2; rfl
  by_cases h3 : (10 : UInt8) = c
  · subst h3; rfl
  by_cases h4 : (13 : UInt8) = c
  · subst h4; rfl
  have e1 : ((32 : UInt8) == c) = false := by simpa using h1
  have e2 : ((9 : UInt8) == c) = false := by simpa using h2
  have e3 : ((10 : UInt8) == c) = false := by simpa using h3
  have e4 : ((13 : UInt8) == c) = false := by simpa using h4
  have f1 : (c == 32) = false := by simpa using fun h => h1 h.symm
  have f2 : (c == 9) = false := by simpa using fun h => h2 h.symm
  have f3 : (c == 10) = false := by simpa using fun h => h3 h.symm
  have f4 : (c == 13) = false := by simpa using fun h => h4 h.symm
  simp [e1, e2, e3, e4, f1, f2, f3, f4]
/-- A comment's end. -/
theorem skip_comment : ∀ l : List UInt8, skipB true l = if Lib.indexByte l 10 = -1 then l.length else (Lib.indexByte l 10).toNat + skipB false (l.drop (Lib.indexByte l 10).toNat)
  | [] => rfl
  | c :: r => by
    have ih := skip_comment r
    have hg := indexByte_ge r 10
    unfold Lib.indexByte
    by_cases h : c = 10
    · subst h
      simp [skipB, isBl]
    · have e : (c == 10) = false := by simpa using h
      rw [skipB, if_neg h, ih, e]
      simp only [Bool.false_eq_true, if_false]
      by_cases h1 : Lib.indexByte r 10 = -1
      · rw [h1]
        simp
        omega
      · have e1 : (Lib.indexByte r 10 == -1) = false := by simpa using h1
        rw [e1]
        have h2 : (Lib.indexByte r 10 + 1).toNat = (Lib.indexByte r 10).toNat + 1 := by omega
        simp only [h1, if_false, Bool.false_eq_true]
        rw [if_neg (by omega), h2, List.drop_succ_cons]
        omega
theorem pre2 (c : UInt8) (r : List UInt8) : Lib.hasPrefix (c :: r) [47, 47] = decide (c = 47 ∧ r.head? = some 47) := by
  unfold Lib.hasPrefix
  cases r with
  | nil => simp [List.isPrefixOf]
  | cons d r =>
    rw [Bool.eq_iff_iff]
    simp [List.isPrefixOf]
    constructor
    · rintro ⟨rfl, rfl⟩; simp
    · rintro ⟨rfl, rfl⟩; simp
theorem skip_step (c : UInt8) (r : List UInt8) : skipB false (c :: r) = if isBl c then 1 + skipB false r else if Lib.hasPrefix (c :: r) [47, 47] then skipB true (c :: r) else 0 := by
  have h1 : skipB false (c :: r) = if isBl c then 1 + skipB false r else if c = 47 ∧ r.head? = some 47 then 1 + skipB true r else 0 := by rw [skipB]
  rw [h1, pre2]
  by_cases hb : isBl c = true
  · rw [if_pos hb, if_pos hb]
  · rw [if_neg hb, if_neg hb]
    by_cases h : c = 47 ∧ r.head? = some 47
    · rw [if_pos h, if_pos (by simpa using h), skipB, if_neg (by rw [h.1]; decide)]
    · rw [if_neg h, if_neg (by simpa using h)]
theorem index_ne (l : List UInt8) (h : Lib.hasPrefix l [47, 47] = true) : Lib.indexByte l 10 ≠ 0 := by
  cases l with
  | nil => simp [Lib.hasPrefix] at h
  | cons c r =>
    rw [pre2] at h
    simp only [decide_eq_true_eq] at h
    obtain ⟨rfl, _⟩ := h
    have := indexByte_ge r 10
    unfold Lib.indexByte
    rw [if_neg (by decide)]
    split
    · decide
    · rename_i h1; simp at h1; omega
theorem skipB_le : ∀ (b : Bool) (l : List UInt8), skipB b l ≤ l.length
  | b, [] => by cases b <;> simp [skipB]
  | true, c :: r => by
    have h1 := skipB_le true r
    have h2 := skipB_le false r
    unfold skipB
    split <;> simp <;> omega
  | false, c :: r => by
    have h1 := skipB_le true r
    have h2 := skipB_le false r
    unfold skipB
    split
    · simp; omega
    · split
      · simp; omega
      · simp
theorem drop_cons (s : ByteArray) (pos : Nat) (h : pos < s.size) : s.data.toList.drop pos = s[pos]'h :: s.data.toList.drop (pos + 1) := by
  rw [List.drop_eq_getElem_cons (by rw [← Lib.size_eq]; exact h)]
  rfl
theorem u8_back (c : UInt8) : ((c.toNat : Int)).toNat.toUInt8 = c := by simp

set_option maxHeartbeats 1000000 in
set_option maxRecDepth 100000 in
theorem lskip_any (s : ByteArray) (w : World) (hs : s.size ≤ maxLen) :
    Calls Tryz.prog 63 #[.string s] w fun e w' => e = .returned (.int .i64 (skipL s.data.toList)) ∧ Below w.heap.size w w' := by
  unfold maxLen at hs
  have cI := fun (s : ByteArray) (c : UInt8) (W : World) => Tryz.strings_IndexByte s (c.toNat : Int) W
  simp only [u8_back] at cI
  have cH := fun (s p : ByteArray) (W : World) => Tryz.strings_HasPrefix s p W
  go_enter Tryz.func63, Tryz.ntmps63
  go_wp2_with fail
  go_step3
  go_wp2_with fail
  go_step3
  go_wp2_with fail
  go_loop [3] (fun i => ∃ pos : Nat, pos ≤ s.size ∧ i = .int .i64 pos ∧ Hid (pos + skipB false (s.data.toList.drop pos) = skipL s.data.toList)) (fun i => s.size - (RowKit.intOf i).toNat)
  case atStart => exact ⟨0, by omega, rfl, by simp [Hid, skipL]⟩
  case round =>
    obtain ⟨pos, hp, rfl, hS⟩ := hrel
    by_cases hlt : pos < s.size
    · have hdc := drop_cons s pos hlt
      have hst := skip_step (s[pos]'hlt) (s.data.toList.drop (pos + 1))
      rw [← hdc] at hst
      have hbl := bl_index (s[pos]'hlt)
      have c1 := cI ⟨#[32, 9, 10, 13]⟩ (s[pos]'hlt) w
      have hex : (s.extract pos s.size).data.toList = s.data.toList.drop pos := Lib.extract_to_end _ _
      have c2 := cH (s.extract pos s.size) ⟨#[47, 47]⟩ w
      have c3 : Calls Tryz.prog 118 #[.string (s.extract pos s.size), .int .u8 10] w fun e w' => e = .returned (.int .i64 (Lib.indexByte (s.extract pos s.size).data.toList 10)) ∧ w' = w := Tryz.strings_IndexByte _ 10 w
      rw [hex] at c2 c3
      have hcm := skip_comment (s.data.toList.drop pos)
      have hge := indexByte_ge (s.data.toList.drop pos) 10
      have hlt2 := indexByte_lt (s.data.toList.drop pos) 10
      have hlen : (s.data.toList.drop pos).length = s.size - pos := by rw [List.length_drop, ← Lib.size_eq]
      have hin := index_ne (s.data.toList.drop pos)
      obtain ⟨l, hl⟩ : ∃ l, s.data.toList.drop pos = l := ⟨_, rfl⟩
      have hdr : ∀ k, s.data.toList.drop (pos + k) = l.drop k := fun k => by rw [← hl, List.drop_drop]
      rw [hdr] at hst
      rw [hl] at hst c2 c3 hcm hge hlt2 hlen hin hS
      obtain ⟨I, hI⟩ : ∃ I, Lib.indexByte [32, 9, 10, 13] (s[pos]'hlt) = I := ⟨_, rfl⟩
      rw [hI] at c1 hbl
      obtain ⟨J, hJ⟩ : ∃ J, Lib.indexByte l 10 = J := ⟨_, rfl⟩
      rw [hJ] at c3 hcm hge hlt2 hin
      have hS2 := hS.out
      clear hS cI cH hdc hex hJ hI hl
      rw [hst, hbl] at hS2
      by_cases hI0 : I ≥ 0
      · have HI : decide (I ≥ 0) = true := by simpa using hI0
        rw [HI, if_pos rfl] at hS2
        have HS := Lib.hid hS2
        have HD := Lib.hid hdr
        clear hS2 hst hbl hcm hin hge hlt2 hdr hI0 c2 c3
        go_wp2_with (first | (go_at_call 118; (with_reducible refine c1.mono ?_); rintro e w4 ⟨rfl, rfl⟩))
        go_round
        case rel => exact ⟨pos + 1, by omega, by go_num, by rw [HD.out, ← HS.out]; show _ = _; omega⟩
        case measure => simp [RowKit.intOf]; omega
      · have HI : decide (I ≥ 0) = false := by simpa using hI0
        rw [HI, if_neg (by simp)] at hS2
        cases hp : Lib.hasPrefix l [47, 47] <;> rw [hp] at c2 hS2
        · rw [if_neg (by simp)] at hS2
          have HS := Lib.hid hS2
          clear hS2 hst hbl hcm hin hge hlt2 hdr hI0 c3 hp
          go_wp2_with (first | (go_at_call 118; (with_reducible refine c1.mono ?_); rintro e w4 ⟨rfl, rfl⟩) | (go_at_call 71; (with_reducible refine c2.mono ?_); rintro e w4 ⟨rfl, rfl⟩))
          rw [Exit.noGoto_ret]
          go_ret
          exact ⟨ret_i64 (by rw [← HS.out]; rfl), Below.refl _ _⟩
        · rw [if_pos rfl, hcm] at hS2
          have hj0 := hin hp
          by_cases hj : J = -1
          · rw [if_pos hj, hlen] at hS2
            have HJ : decide (J ≥ 0) = false := by simp; omega
            have HS := Lib.hid hS2
            clear hS2 hst hbl hcm hin hge hlt2 hdr hI0 hp hj0 hj
            go_wp2_with (first | (go_at_call 118; (with_reducible refine c1.mono ?_); rintro e w4 ⟨rfl, rfl⟩) | (go_at_call 71; (with_reducible refine c2.mono ?_); rintro e w4 ⟨rfl, rfl⟩) | (go_at_call 118; (with_reducible refine c3.mono ?_); rintro e w4 ⟨rfl, rfl⟩))
            rw [Exit.noGoto_ret]
            go_ret
            exact ⟨ret_i64 (by rw [← HS.out]; omega), Below.refl _ _⟩
          · rw [if_neg hj] at hS2
            have HJ : decide (J ≥ 0) = true := by simp; omega
            have HS := Lib.hid hS2
            obtain ⟨j, rfl⟩ : ∃ j : Nat, J = j := ⟨J.toNat, by omega⟩
            have HD := Lib.hid hdr
            have hjp : 0 < j := by omega
            have hjl : pos + j < s.size := by omega
            clear hS2 hst hbl hcm hin hge hlt2 hdr hI0 hp hj0 hj
            go_wp2_with (first | (go_at_call 118; (with_reducible refine c1.mono ?_); rintro e w4 ⟨rfl, rfl⟩) | (go_at_call 71; (with_reducible refine c2.mono ?_); rintro e w4 ⟨rfl, rfl⟩) | (go_at_call 118; (with_reducible refine c3.mono ?_); rintro e w4 ⟨rfl, rfl⟩))
            go_round
            case rel => exact ⟨pos + j, by omega, by go_num, by rw [HD.out, ← HS.out]; show _ = _; simp; omega⟩
            case measure => simp [RowKit.intOf]; omega
    · have e : pos = skipL s.data.toList := by
        rw [← hS.out, List.drop_eq_nil_of_le (by rw [← Lib.size_eq]; omega)]
        rfl
      clear cI cH hS
      have HE := Lib.hid e
      clear e
      go_wp2
      go_ret
      exact ⟨ret_i64 (by rw [HE.out]), Below.refl _ _⟩
end Go.Proofs.YtpbkeamjdolpgaaGreatDoor
namespace Go.Proofs.YtpbkeamjdolpgaaGreatDoor
open Go.RowKit Go.Lib

theorem numL_le (l : List UInt8) : numL l ≤ l.length := by
  have h1 := digs_le l
  have h2 := digs_le (l.drop (digs l + 1))
  rw [List.length_drop] at h2
  unfold numL
  split
  · omega
  · split
    · rename_i h
      have : (l.drop (digs l)).length ≠ 0 := by intro h0; rw [List.eq_nil_of_length_eq_zero h0] at h; simp at h
      rw [List.length_drop] at this
      omega
    · exact h1
theorem signIn_le (l : List UInt8) : ∀ ts, signIn l ts ≤ l.length
  | [] => Nat.zero_le _
  | t :: r => by
    unfold signIn
    split
    · rename_i h
      exact (List.isPrefixOf_iff_prefix.1 h).length_le
    · exact signIn_le l r
theorem wordL_le (l : List UInt8) : (wordL l).2 ≤ l.length := by
  have h1 := nameL_le l
  have h2 := numL_le l
  have h3 : signL l ≤ l.length := signIn_le l signs
  unfold wordL
  split
  · exact h1
  · split
    · exact h2
    · split
      · exact h3
      · exact Nat.zero_le _

set_option maxHeartbeats 1000000 in
theorem first_any (x : Nat) (hx : x ≤ 1114111) (w : World) (hG : Gl w) : Calls Tryz.prog 179 #[.int .i32 x] w fun e w' => e = .returned (.bool (x == 95 || Lib.isLetterU x)) ∧ Below w.heap.size w w' := by
  have cL := Tryz.unicode_IsLetter_all (x : Int) w (by omega) (by omega) hG.1 hG.2.1
  clear hG
  by_cases h1 : x = 95
  · have H1 : ((x : Int) == 95) = true := by simp; omega
    have hn : (x == 95) = true := by simp [h1]
    rw [hn]
    clear h1 cL hn
    go_enter Tryz.func179, Tryz.ntmps179
    go_wp2
    go_ret
    exact ⟨rfl, Below.refl _ _⟩
  · have H1 : ((x : Int) == 95) = false := by simp; omega
    have hn : (x == 95) = false := by simpa using h1
    rw [hn]
    obtain ⟨d, hd⟩ : ∃ d, Lib.isLetterU x = d := ⟨_, rfl⟩
    rw [hd] at cL ⊢
    clear h1 hn hd
    go_enter Tryz.func179, Tryz.ntmps179
    go_wp2_with (first | (go_at_call 121; refine cL.mono ?_; rintro e w' ⟨rfl, hb⟩))
    all_goals go_ret
    all_goals exact ⟨ret_bool (by simp), hb⟩

set_option maxHeartbeats 1000000 in
theorem digit_any (c : UInt8) (w : World) : Calls Tryz.prog 180 #[.int .u8 (c.toNat : Int)] w fun e w' => e = .returned (.bool (isDb c)) ∧ w = w' := by
  unfold isDb
  obtain ⟨x, hx⟩ : ∃ x, c.toNat = x := ⟨_, rfl⟩
  rw [hx]
  clear hx
  by_cases h1 : 48 ≤ x
  · by_cases h2 : x ≤ 57
    · have a1 : decide ((x : Int) ≥ 48) = true := by simp; omega
      have a2 : decide ((x : Int) ≤ 57) = true := by simp; omega
      go_enter Tryz.func180, Tryz.ntmps180
      go_wp2
      go_ret
      exact ⟨ret_bool (by simp [h1, h2]), rfl⟩
    · have a1 : decide ((x : Int) ≥ 48) = true := by simp; omega
      have a2 : decide ((x : Int) ≤ 57) = false := by simp; omega
      go_enter Tryz.func180, Tryz.ntmps180
      go_wp2
      go_ret
      exact ⟨ret_bool (by simp [h1, h2]), rfl⟩
  · have a1 : decide ((x : Int) ≥ 48) = false := by simp; omega
    go_enter Tryz.func180, Tryz.ntmps180
    go_wp2
    go_ret
    exact ⟨ret_bool (by simp [h1]), rfl⟩

theorem decGo (s : ByteArray) (pos : Nat) (h : pos < s.size) : Lib.decodeGo (s.extract pos s.size) = dec (s.data.toList.drop pos) := by
  unfold Lib.decodeGo
  have hsz : (s.extract pos s.size).size = s.size - pos := by rw [Lib.size_eq (s.extract _ _), Lib.extract_to_end, List.length_drop, ← Lib.size_eq]
  rw [if_neg (by omega), decode_dec, Lib.extract_to_end]
  simp

set_option maxHeartbeats 2000000 in
set_option maxRecDepth 100000 in
theorem rname_any (s : ByteArray) (p : Nat) (w : World) (hs : s.size ≤ maxLen) (hp : p ≤ s.size) (hG : Gl w) :
    Calls Tryz.prog 137 #[.string s, .int .i64 p] w fun e w' => e = .returned (.int .i64 ((p + nameL (s.data.toList.drop p) : Nat) : Int)) ∧ Below w.heap.size w w' := by
  unfold maxLen at hs
  obtain ⟨T, hT⟩ : ∃ T, p + nameL (s.data.toList.drop p) = T := ⟨_, rfl⟩
  rw [hT]
  have hT0 : p + runL isNm s.size (p - p) (s.data.toList.drop p) = T := by
    rw [← hT, nameL, Nat.sub_self, runL_fuel isNm s.size (s.data.toList.drop p).length 0 _ (by rw [List.length_drop, ← Lib.size_eq]; omega) (Nat.le_refl _)]
  have HT := Lib.hid hT0
  clear hT hT0
  have cD := fun pos wx (hb : Below w.heap.size w wx) => Tryz.utf8_DecodeRuneInString (s.extract pos s.size) wx (hG.below hb).2.2.2
  have cF := fun x hx wx (hb : Below w.heap.size w wx) => first_any x hx wx (hG.below hb)
  have cI := fun (x : Nat) (hx : x ≤ 1114111) wx (hb : Below w.heap.size w wx) => Tryz.unicode_IsDigit_all (x : Int) wx (by omega) (by omega) (hG.below hb).2.2.1
  clear hG
  go_enter Tryz.func137, Tryz.ntmps137
  go_wp2_with fail
  go_loopg [5] s.size (fun gf s5 wx => ∃ e : Nat, s5 = .int .i64 e ∧ p ≤ e ∧ e ≤ s.size ∧ Below w.heap.size w wx ∧ Hid (e + runL isNm gf (e - p) (s.data.toList.drop e) = T) ∧ s.size ≤ e + gf)
  case atStart => exact ⟨p, rfl, Nat.le_refl _, hp, Below.refl _ _, HT, by omega⟩
  case round =>
    obtain ⟨e, rfl, hpe, hes, hbw, hS, hfu⟩ := hrel
    by_cases hlt : e < s.size
    · obtain ⟨g', rfl⟩ : ∃ g', gk = g' + 1 := ⟨gk - 1, by omega⟩
      have cDe := cD e wr hbw
      rw [decGo s e hlt] at cDe
      obtain ⟨l, hl⟩ : ∃ l, s.data.toList.drop e = l := ⟨_, rfl⟩
      have hln : l.length = s.size - e := by rw [← hl, List.length_drop, ← Lib.size_eq]
      have hlne : l ≠ [] := by intro h; rw [h] at hln; simp at hln; omega
      have hdrop : ∀ K, s.data.toList.drop (e + K) = l.drop K := fun K => by rw [← hl, List.drop_drop]
      have hrun : runL isNm (g' + 1) (e - p) l = if badL l then 0 else if isNm (e - p) (dec l).1 then (dec l).2 + runL isNm g' (e - p + (dec l).2) (l.drop (dec l).2) else 0 := by
        rw [runL, if_neg hlne]
      have hk1 := dec_ge1 l
      have hk2 := dec_le l hlne
      have hr := dec_rune l
      have hbd : badL l = ((dec l).1 == 65533 && (dec l).2 == 1) := rfl
      rw [hl, hrun] at hS
      rw [hl] at cDe
      obtain ⟨R, hR⟩ : ∃ R, (dec l).1 = R := ⟨_, rfl⟩
      obtain ⟨K, hK⟩ : ∃ K, (dec l).2 = K := ⟨_, rfl⟩
      rw [hR, hK] at hS cDe hbd
      rw [hK] at hk1 hk2
      rw [hR] at hr
      rw [← hdrop] at hS
      have cFe := cF R hr
      have cIe := cI R hr
      obtain ⟨F, hF⟩ : ∃ F, (R == 95 || Lib.isLetterU R) = F := ⟨_, rfl⟩
      obtain ⟨D, hD⟩ : ∃ D, Lib.isDigitU R = D := ⟨_, rfl⟩
      have hnm : isNm (e - p) R = (F || (decide (0 < e - p) && D)) := by unfold isNm; rw [hF, hD]
      rw [hF] at cFe
      rw [hD] at cIe
      rw [hnm] at hS
      have hS2 := hS.out
      clear hS cD cF cI hrun hdrop hF hD hR hK hnm hl hlne
      have hcase : (R = 65533 ∧ K = 1 ∧ badL l = true) ∨ (badL l = false ∧ ((((R : Int) == 65533) = true ∧ ((K : Int) == 1) = false) ∨ ((R : Int) == 65533) = false)) := by
        rw [hbd]
        by_cases h1 : R = 65533
        · by_cases h2 : K = 1
          · left; simp [h1, h2]
          · right
            refine ⟨by simp [h2], Or.inl ⟨by simp [h1], ?_⟩⟩
            simp; omega
        · right
          refine ⟨by simp [h1], Or.inr ?_⟩
          simp; omega
      rcases hcase with ⟨rfl, rfl, hb⟩ | ⟨hb, hcase⟩
      · rw [hb, if_pos rfl] at hS2
        have HS := Lib.hid hS2
        clear hS2 hbd hb cFe cIe
        go_wp2_with (first | (go_at_call 65; (with_reducible refine cDe.mono ?_); rintro e w4 ⟨rfl, hb4⟩))
        go_ret
        exact ⟨ret_i64 (by rw [← HS.out]; rfl), tr hbw hb4⟩
      · rw [hb, if_neg (by simp)] at hS2
        clear hbd hb
        rcases hcase with ⟨q1, q2⟩ | q1
        all_goals (
          cases F with
          | true =>
            simp only [Bool.true_or, if_true] at hS2
            have HS := Lib.hid hS2
            clear hS2 cIe
            go_wp2_with (first | (go_at_call 65; (with_reducible refine cDe.mono ?_); rintro e w4 ⟨rfl, hb4⟩) | (go_at_call 179; (with_reducible refine (cFe _ (tr hbw hb4)).mono ?_); rintro e w5 ⟨rfl, hb5⟩) | (go_at_call 122; (with_reducible refine (cIe _ (tr (tr hbw hb4) hb5)).mono ?_); rintro e w6 ⟨rfl, hb6⟩))
            go_roundg g'
            case measure => omega
            case rel => exact ⟨e + K, by go_num, by omega, by omega, tr (tr hbw hb4) hb5, by rw [← HS.out, show e + K - p = e - p + K by omega]; show _ = _; omega, by omega⟩
          | false =>
            by_cases hep : e = p
            · have q3 : ((e : Int) == (p : Int)) = true := by simp; omega
              simp only [hep, Nat.sub_self, Bool.false_or, Nat.lt_irrefl, decide_false, Bool.false_and, Bool.false_eq_true, if_false] at hS2
              have HS := Lib.hid hS2
              have hep2 : p ≤ e ∧ e ≤ p := by omega
              clear hS2 cIe hep
              go_wp2_with (first | (go_at_call 65; (with_reducible refine cDe.mono ?_); rintro e w4 ⟨rfl, hb4⟩) | (go_at_call 179; (with_reducible refine (cFe _ (tr hbw hb4)).mono ?_); rintro e w5 ⟨rfl, hb5⟩) | (go_at_call 122; (with_reducible refine (cIe _ (tr (tr hbw hb4) hb5)).mono ?_); rintro e w6 ⟨rfl, hb6⟩))
              go_ret
              exact ⟨ret_i64 (by rw [← HS.out]; omega), tr (tr hbw hb4) hb5⟩
            · have q3 : ((e : Int) == (p : Int)) = false := by simp; omega
              have q4 : decide (0 < e - p) = true := by simp; omega
              rw [q4] at hS2
              clear q4
              cases D with
              | true =>
                simp only [Bool.false_or, Bool.true_and, if_true] at hS2
                have HS := Lib.hid hS2
                clear hS2 hep
                go_wp2_with (first | (go_at_call 65; (with_reducible refine cDe.mono ?_); rintro e w4 ⟨rfl, hb4⟩) | (go_at_call 179; (with_reducible refine (cFe _ (tr hbw hb4)).mono ?_); rintro e w5 ⟨rfl, hb5⟩) | (go_at_call 122; (with_reducible refine (cIe _ (tr (tr hbw hb4) hb5)).mono ?_); rintro e w6 ⟨rfl, hb6⟩))
                go_roundg g'
                case measure => omega
                case rel => exact ⟨e + K, by go_num, by omega, by omega, tr (tr (tr hbw hb4) hb5) hb6, by rw [← HS.out, show e + K - p = e - p + K by omega]; show _ = _; omega, by omega⟩
              | false =>
                simp only [Bool.false_or, Bool.true_and, Bool.false_eq_true, if_false] at hS2
                have HS := Lib.hid hS2
                clear hS2 hep
                go_wp2_with (first | (go_at_call 65; (with_reducible refine cDe.mono ?_); rintro e w4 ⟨rfl, hb4⟩) | (go_at_call 179; (with_reducible refine (cFe _ (tr hbw hb4)).mono ?_); rintro e w5 ⟨rfl, hb5⟩) | (go_at_call 122; (with_reducible refine (cIe _ (tr (tr hbw hb4) hb5)).mono ?_); rintro e w6 ⟨rfl, hb6⟩))
                go_ret
                exact ⟨ret_i64 (by rw [← HS.out]; rfl), tr (tr (tr hbw hb4) hb5) hb6⟩)
    · have hS2 := hS.out
      rw [List.drop_eq_nil_of_le (by rw [← Lib.size_eq]; omega), runL_nil] at hS2
      have HS := Lib.hid hS2
      clear hS2 hS cD cF cI
      go_wp2
      go_ret
      exact ⟨ret_i64 (by rw [← HS.out]; rfl), hbw⟩
end Go.Proofs.YtpbkeamjdolpgaaGreatDoor
namespace Go.Proofs.YtpbkeamjdolpgaaGreatDoor
open Go.RowKit Go.Lib

theorem digs_step (s : ByteArray) (e : Nat) (h : e < s.size) : digs (s.data.toList.drop e) = if isDb (s[e]'h) then 1 + digs (s.data.toList.drop (e + 1)) else 0 := by
  rw [drop_cons s e h]
  unfold digs
  rw [List.takeWhile_cons]
  cases isDb (s[e]'h) <;> simp
  omega
theorem digs_end (s : ByteArray) (e : Nat) (h : ¬ e < s.size) : digs (s.data.toList.drop e) = 0 := by
  rw [List.drop_eq_nil_of_le (by rw [← Lib.size_eq]; omega)]
  rfl
theorem num_at (L : List UInt8) (p e : Nat) (he : e = p + digs (L.drop p)) :
    p + numL (L.drop p) = if e = p then p else if L[e]? = some 46 ∧ 0 < digs (L.drop (e + 1)) then e + 1 + digs (L.drop (e + 1)) else e := by
  unfold numL
  rw [List.head?_drop, List.getElem?_drop, List.drop_drop, ← he, show p + (digs (L.drop p) + 1) = e + 1 by omega]
  obtain ⟨n, hn⟩ : ∃ n, digs (L.drop p) = n := ⟨_, rfl⟩
  obtain ⟨k, hk⟩ : ∃ k, digs (L.drop (e + 1)) = k := ⟨_, rfl⟩
  rw [hn] at he
  rw [hn, hk]
  subst he
  by_cases h0 : n = 0
  · rw [if_pos h0, if_pos (show p + n = p by omega)]; rfl
  · rw [if_neg h0, if_neg (show ¬ p + n = p by omega)]
    split <;> omega
theorem get_some (s : ByteArray) (e : Nat) (h : e < s.size) : s.data.toList[e]? = some (s[e]'h) := by
  rw [List.getElem?_eq_getElem (by rw [← Lib.size_eq]; exact h)]
  rfl
theorem get_none (s : ByteArray) (e : Nat) (h : ¬ e < s.size) : s.data.toList[e]? = none := by
  rw [List.getElem?_eq_none_iff, ← Lib.size_eq]
  omega

set_option maxHeartbeats 2000000 in
set_option maxRecDepth 100000 in
theorem rnumber_any (s : ByteArray) (p : Nat) (w : World) (hs : s.size ≤ 140737488355328) (hp : p ≤ s.size) :
    Calls Tryz.prog 138 #[.string s, .int .i64 p] w fun e w' => e = .returned (.int .i64 ((p + numL (s.data.toList.drop p) : Nat) : Int)) ∧ w' = w := by
  have hN := fun e (he : e = p + digs (s.data.toList.drop p)) => num_at s.data.toList p e he
  obtain ⟨T, hT⟩ : ∃ T, p + numL (s.data.toList.drop p) = T := ⟨_, rfl⟩
  simp only [hT] at hN
  rw [hT]
  have HN := Lib.hid hN
  have HS := Lib.hid (digs_step s)
  have HE := Lib.hid (digs_end s)
  have cD := digit_any
  clear hT hN
  go_enter Tryz.func138, Tryz.ntmps138
  go_wp2_with fail
  go_loop [5] (fun i => ∃ e : Nat, p ≤ e ∧ e ≤ s.size ∧ i = .int .i64 e ∧ Hid (e + digs (s.data.toList.drop e) = p + digs (s.data.toList.drop p))) (fun i => s.size - (RowKit.intOf i).toNat)
  case atStart => exact ⟨p, Nat.le_refl _, hp, rfl, rfl⟩
  case round =>
    obtain ⟨e, hpe, hes, rfl, hR⟩ := hrel
    by_cases hlt : e < s.size
    · have cDe := cD (s[e]'hlt) w
      have h1 := HS.out e hlt
      cases hd : isDb (s[e]'hlt) <;> rw [hd] at cDe h1
      · have hee : e = p + digs (s.data.toList.drop p) := by rw [← hR.out, h1]; simp
        have hfin := HN.out e hee
        rw [get_some s e hlt] at hfin
        clear HN hR hee h1 hd
        by_cases q1 : e = p
        · have Q1 : ((e : Int) == (p : Int)) = true := by simp; omega
          rw [if_pos q1] at hfin
          have HF := Lib.hid hfin
          have hep : e ≤ p := by omega
          clear hfin q1 HS HE cD
          go_wp2_with (first | (go_at_call 180; (with_reducible refine cDe.mono ?_); rintro e w5 ⟨rfl, rfl⟩) | (go_at_call 180; (with_reducible refine cDf.mono ?_); rintro e w5 ⟨rfl, rfl⟩))
          go_ret
          exact ⟨ret_i64 (by have := HF.out; omega), rfl⟩
        · have Q1 : ((e : Int) == (p : Int)) = false := by simp; omega
          rw [if_neg q1] at hfin
          by_cases q2 : e + 1 < s.size
          · have Q2 : decide ((e : Int) + 1 ≥ (s.size : Int)) = false := by simp; omega
            by_cases q3 : (s[e]'hlt) = 46
            · have Q3 : (((s[e]'hlt).toNat : Int) != 46) = false := by rw [q3]; rfl
              have h2 := HS.out (e + 1) q2
              have cDf := cD (s[e + 1]'q2) w
              cases hd2 : isDb (s[e + 1]'q2) <;> rw [hd2] at h2 cDf
              · simp only [Bool.false_eq_true, if_false] at h2
                rw [h2, if_neg (by omega)] at hfin
                have HF := Lib.hid hfin
                clear hfin q1 q3 HS HE cD h2 hd2
                go_wp2_with (first | (go_at_call 180; (with_reducible refine cDe.mono ?_); rintro e w5 ⟨rfl, rfl⟩) | (go_at_call 180; (with_reducible refine cDf.mono ?_); rintro e w5 ⟨rfl, rfl⟩))
                go_ret
                exact ⟨ret_i64 (by have := HF.out; omega), rfl⟩
              · simp only [if_true] at h2
                rw [q3, if_pos ⟨rfl, by omega⟩] at hfin
                have HF := Lib.hid hfin
                clear hfin q1 q3 h2 hd2
                have HC := Lib.hid cD
                clear cD
                go_wp2_with (first | (go_at_call 180; (with_reducible refine cDe.mono ?_); rintro e w5 ⟨rfl, rfl⟩) | (go_at_call 180; (with_reducible refine cDf.mono ?_); rintro e w5 ⟨rfl, rfl⟩))
                go_loop [5] (fun i => ∃ f : Nat, e + 1 ≤ f ∧ f ≤ s.size ∧ i = .int .i64 f ∧ Hid (f + digs (s.data.toList.drop f) = T)) (fun i => s.size - (RowKit.intOf i).toNat)
                case atStart => exact ⟨e + 1, Nat.le_refl _, by omega, rfl, HF.out.symm⟩
                case round =>
                  obtain ⟨f, hpf, hfs, rfl, hR⟩ := hrel
                  by_cases hlf : f < s.size
                  · have cDe := HC.out (s[f]'hlf) w
                    have h1 := HS.out f hlf
                    cases hd : isDb (s[f]'hlf) <;> rw [hd] at cDe h1
                    · have hR2 := hR.out
                      rw [h1] at hR2
                      have HR2 := Lib.hid hR2
                      clear hR2 h1 hd hR
                      go_wp2_with (first | (go_at_call 180; (with_reducible refine cDe.mono ?_); rintro e w5 ⟨rfl, rfl⟩) | (go_at_call 180; (with_reducible refine cDf.mono ?_); rintro e w5 ⟨rfl, rfl⟩))
                      go_ret
                      exact ⟨ret_i64 (by have := HR2.out; simp only [Bool.false_eq_true, if_false] at this; omega), rfl⟩
                    · have hR2 := hR.out
                      rw [h1, if_pos rfl] at hR2
                      have HR2 := Lib.hid hR2
                      clear hR2 h1 hd hR
                      go_wp2_with (first | (go_at_call 180; (with_reducible refine cDe.mono ?_); rintro e w5 ⟨rfl, rfl⟩) | (go_at_call 180; (with_reducible refine cDf.mono ?_); rintro e w5 ⟨rfl, rfl⟩))
                      go_round
                      case rel => exact ⟨f + 1, by omega, by omega, by go_num, by rw [← HR2.out]; show _ = _; omega⟩
                      case measure => simp [RowKit.intOf]; omega
                  · have hR2 := hR.out
                    rw [HE.out f hlf] at hR2
                    have HR2 := Lib.hid hR2
                    clear hR2 hR
                    go_wp2
                    go_ret
                    exact ⟨ret_i64 (by have := HR2.out; omega), rfl⟩
            · have Q3 : (((s[e]'hlt).toNat : Int) != 46) = true := by
                have : ¬ (s[e]'hlt).toNat = 46 := fun h => q3 (UInt8.toNat_inj.1 h)
                simp; omega
              rw [if_neg (fun h => q3 (Option.some.inj h.1))] at hfin
              have HF := Lib.hid hfin
              clear hfin q1 q3 HS HE cD
              go_wp2_with (first | (go_at_call 180; (with_reducible refine cDe.mono ?_); rintro e w5 ⟨rfl, rfl⟩) | (go_at_call 180; (with_reducible refine cDf.mono ?_); rintro e w5 ⟨rfl, rfl⟩))
              go_ret
              exact ⟨ret_i64 (by have := HF.out; omega), rfl⟩
          · have Q2 : decide ((e : Int) + 1 ≥ (s.size : Int)) = true := by simp; omega
            rw [HE.out (e + 1) q2, if_neg (by omega)] at hfin
            have HF := Lib.hid hfin
            clear hfin q1 HS HE cD
            go_wp2_with (first | (go_at_call 180; (with_reducible refine cDe.mono ?_); rintro e w5 ⟨rfl, rfl⟩) | (go_at_call 180; (with_reducible refine cDf.mono ?_); rintro e w5 ⟨rfl, rfl⟩))
            go_ret
            exact ⟨ret_i64 (by have := HF.out; omega), rfl⟩
      · have hR2 : e + 1 + digs (s.data.toList.drop (e + 1)) = p + digs (s.data.toList.drop p) := by rw [← hR.out, h1, if_pos rfl]; omega
        have HR2 := Lib.hid hR2
        clear HN HS HE hR h1 hd cD hR2
        go_wp2_with (first | (go_at_call 180; (with_reducible refine cDe.mono ?_); rintro e w5 ⟨rfl, rfl⟩))
        go_round
        case rel => exact ⟨e + 1, by omega, by omega, by go_num, HR2⟩
        case measure => simp [RowKit.intOf]; omega
    · have hee : e = p + digs (s.data.toList.drop p) := by rw [← hR.out, HE.out e hlt]; simp
      have hfin := HN.out e hee
      rw [get_none s e hlt] at hfin
      have hfin2 : T = e := by rw [hfin]; split <;> simp_all
      clear HN HS HE hR hee cD hfin
      have HF := Lib.hid hfin2
      clear hfin2
      have Q2 : decide ((e : Int) + 1 ≥ (s.size : Int)) = true := by simp; omega
      by_cases q1 : e = p
      · have Q1 : ((e : Int) == (p : Int)) = true := by simp; omega
        have hep : e ≤ p := by omega
        clear q1
        go_wp2
        go_ret
        exact ⟨ret_i64 (by have := HF.out; omega), rfl⟩
      · have Q1 : ((e : Int) == (p : Int)) = false := by simp; omega
        clear q1
        go_wp2
        go_ret
        exact ⟨ret_i64 (by have := HF.out; omega), rfl⟩
end Go.Proofs.YtpbkeamjdolpgaaGreatDoor
namespace Go.Proofs.YtpbkeamjdolpgaaGreatDoor
open Go.RowKit Go.Lib

def oneStr : ByteArray := ⟨#[43, 45, 42, 47, 60, 62, 33, 63, 58, 44, 59, 61, 40, 41, 91, 93, 123, 125]⟩
theorem one_at : ∀ (k : Nat) (h : k < 18), signs.getD (6 + k) [] = [oneStr[k]'h] := by decide
theorem two_len : ∀ k, k < 6 → (signs.getD k []).length = 2 := by decide
theorem pre_two (s T : ByteArray) (p : Nat) (t : List UInt8) (hT : T = ⟨t.toArray⟩) (ht : t.length = 2) (h2 : p + 2 ≤ s.size) :
    Lib.hasPrefix (s.data.toList.drop p) t = ((s.extract p (p + 2)).toList == T.toList) := by
  rw [← Lib.hasPrefix_of_take, ht, Lib.extract_toList, List.length_drop, ← Lib.size_eq, show p + 2 - p = 2 by omega, decide_eq_true (show 2 ≤ s.size - p by omega), hT, Lib.toList_data]
  simp
theorem pre_far (s : ByteArray) (p : Nat) (t : List UInt8) (ht : t.length = 2) (h2 : ¬ p + 2 ≤ s.size) : Lib.hasPrefix (s.data.toList.drop p) t = false := by
  rw [← Lib.hasPrefix_of_take, ht, List.length_drop, ← Lib.size_eq, decide_eq_false (by omega)]
  rfl
theorem pre_one (s : ByteArray) (p : Nat) (c : UInt8) (h : p < s.size) : Lib.hasPrefix (s.data.toList.drop p) [c] = (((s[p]'h).toNat : Int) == (c.toNat : Int)) := by
  rw [drop_cons s p h]
  unfold Lib.hasPrefix
  rw [Bool.eq_iff_iff]
  simp [List.isPrefixOf]
  constructor
  · rintro rfl; rfl
  · intro h; exact (UInt8.toNat_inj.1 (by omega)).symm
theorem pre_end (s : ByteArray) (p : Nat) (c : UInt8) (h : ¬ p < s.size) : Lib.hasPrefix (s.data.toList.drop p) [c] = false := by
  rw [List.drop_eq_nil_of_le (by rw [← Lib.size_eq]; omega)]
  rfl

set_option maxHeartbeats 2000000 in
set_option maxRecDepth 100000 in
theorem rsign_any (s : ByteArray) (p : Nat) (w : World) (hs : s.size ≤ 140737488355328) (hp : p ≤ s.size) :
    Calls Tryz.prog 139 #[.string s, .int .i64 p] w fun e w' => e = .returned (.int .i64 ((p + signL (s.data.toList.drop p) : Nat) : Int)) ∧ Below w.heap.size w w' := by
  obtain ⟨M, hM⟩ : ∃ M, signIn (s.data.toList.drop p) signs = M := ⟨_, rfl⟩
  unfold signL
  rw [hM]
  have h00 : signIn (s.data.toList.drop p) (signs.drop 0) = M := hM
  clear hM
  have H0 := Lib.hid h00
  clear h00
  have h24 : signIn (s.data.toList.drop p) (signs.drop 24) = 0 := rfl
  have H24 := Lib.hid h24
  clear h24
  go_enter Tryz.func139, Tryz.ntmps139
  go_wp2_with fail
  go_loopw [6] (fun i wx => ∃ k : Nat, k ≤ 6 ∧ i = .int .i64 k ∧ Below w.heap.size w wx ∧ (∀ j, j < 6 → wx.cell? ⟨w.heap.size, j, none⟩ = some (.string ⟨(signs.getD j []).toArray⟩)) ∧ Hid (signIn (s.data.toList.drop p) (signs.drop k) = M)) (fun i _ => 6 - (RowKit.intOf i).toNat)
  case atStart =>
    refine ⟨0, by omega, rfl, (Below.refl _ _).alloc (Nat.le_refl _) _, ?_, H0⟩
    intro j hj
    match j, hj with
    | 0, _ => simp; rfl
    | 1, _ => simp; rfl
    | 2, _ => simp; rfl
    | 3, _ => simp; rfl
    | 4, _ => simp; rfl
    | 5, _ => simp; rfl
  case round =>
    obtain ⟨k, hk, rfl, hb, hc, hR⟩ := hrel
    by_cases hlt : k < 6
    · have hck := hc k hlt
      have hst := signIn_step (s.data.toList.drop p) k (by omega)
      have htl := two_len k hlt
      have hp2 := pre_two s _ p _ rfl htl
      have hpf := pre_far s p _ htl
      rw [htl, hR.out] at hst
      obtain ⟨T, hT⟩ : ∃ T : ByteArray, ⟨(signs.getD k []).toArray⟩ = T := ⟨_, rfl⟩
      rw [hT] at hck hp2
      have HC := Lib.hid hc
      clear hc hT htl
      by_cases h2 : p + 2 ≤ s.size
      · have Q2 : decide ((p : Int) + 2 ≤ (s.size : Int)) = true := by simp; omega
        rw [hp2 h2] at hst
        have HS := Lib.hid hst
        clear hst hp2 hpf
        go_wp2_with fail
        go_quiet (fail)
        go_wp2_with fail
        · go_ret
          have ht : ((s.extract p (p + 2)).toList == T.toList) = true := by assumption
          have hm := HS.out
          rw [ht, if_pos rfl] at hm
          exact ⟨ret_i64 (by omega), bdn hb _⟩
        · have ht : ((s.extract p (p + 2)).toList == T.toList) = false := by assumption
          have hm := HS.out
          rw [ht, if_neg (by simp)] at hm
          refine ⟨⟨k + 1, by omega, by go_num, bdn hb _, fun j hj => by have := HC.out j hj; simpa using this, hm.symm⟩, ?_⟩
          simp [RowKit.intOf]; omega
      · have Q2 : decide ((p : Int) + 2 ≤ (s.size : Int)) = false := by simp; omega
        rw [hpf h2, if_neg (by simp)] at hst
        have HS := Lib.hid hst
        clear hst hp2 hpf
        go_wp2_with fail
        go_quiet (fail)
        go_wp2_with fail
        refine ⟨⟨k + 1, by omega, by go_num, bdn hb _, fun j hj => by have := HC.out j hj; simpa using this, HS.out.symm⟩, ?_⟩
        simp [RowKit.intOf]; omega
    · obtain rfl : k = 6 := by omega
      clear hc
      go_wp2_with fail
      go_loopw [8] (fun i wx => ∃ k : Nat, k ≤ 18 ∧ i = .int .i64 k ∧ Below w.heap.size w wx ∧ Hid (signIn (s.data.toList.drop p) (signs.drop (6 + k)) = M)) (fun i _ => 18 - (RowKit.intOf i).toNat)
      case atStart => exact ⟨0, by omega, rfl, hb, hR⟩
      case round =>
        obtain ⟨k, hk, rfl, hb2, hR2⟩ := hrel
        by_cases hlk : k < 18
        · have hst := signIn_step (s.data.toList.drop p) (6 + k) (by omega)
          have h1 := one_at k hlk
          rw [h1, hR2.out] at hst
          have hki : k < (⟨#[43, 45, 42, 47, 60, 62, 33, 63, 58, 44, 59, 61, 40, 41, 91, 93, 123, 125]⟩ : ByteArray).size := hlk
          by_cases hpl : p < s.size
          · have Q2 : decide ((p : Int) < (s.size : Int)) = true := by simp; omega
            rw [pre_one s p _ hpl] at hst
            have HS := Lib.hid hst
            clear hst h1
            go_wp2_with fail
            go_quiet (fail)
            go_wp2_with fail
            · go_ret
              have ht : (((s[p]'hpl).toNat : Int) == (((⟨#[43, 45, 42, 47, 60, 62, 33, 63, 58, 44, 59, 61, 40, 41, 91, 93, 123, 125]⟩ : ByteArray)[k]'hki).toNat : Int)) = true := by assumption
              have hm := HS.out
              rw [if_pos (show (((s[p]'hpl).toNat : Int) == ((oneStr[k]'hlk).toNat : Int)) = true from ht)] at hm
              simp only [List.length_cons, List.length_nil] at hm
              exact ⟨ret_i64 (by omega), bdn hb2 _⟩
            · have ht : (((s[p]'hpl).toNat : Int) == (((⟨#[43, 45, 42, 47, 60, 62, 33, 63, 58, 44, 59, 61, 40, 41, 91, 93, 123, 125]⟩ : ByteArray)[k]'hki).toNat : Int)) = false := by assumption
              have hm := HS.out
              have ht2 : ¬ (((s[p]'hpl).toNat : Int) == ((oneStr[k]'hlk).toNat : Int)) = true := by
                intro h
                exact absurd (ht.symm.trans h) (by simp)
              rw [if_neg ht2] at hm
              refine ⟨⟨k + 1, by omega, by go_num, bdn hb2 _, hm.symm⟩, ?_⟩
              simp [RowKit.intOf]; omega
          · have Q2 : decide ((p : Int) < (s.size : Int)) = false := by simp; omega
            rw [pre_end s p _ hpl, if_neg (by simp)] at hst
            have HS := Lib.hid hst
            clear hst h1
            go_wp2_with fail
            go_quiet (fail)
            go_wp2_with fail
            refine ⟨⟨k + 1, by omega, by go_num, bdn hb2 _, HS.out.symm⟩, ?_⟩
            simp [RowKit.intOf]; omega
        · have hm := hR2.out
          rw [show 6 + k = 24 by omega, H24.out] at hm
          go_wp2_with fail
          go_ret
          exact ⟨ret_i64 (by omega), hb2⟩
end Go.Proofs.YtpbkeamjdolpgaaGreatDoor
