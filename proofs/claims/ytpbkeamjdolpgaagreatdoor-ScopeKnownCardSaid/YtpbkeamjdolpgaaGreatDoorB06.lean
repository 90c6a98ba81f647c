/- The walks of the reference's skip. The walks of lexer.Name, of the reference's word, Name, Is. The walk of lexer.Tokens. Tokens at any size. The walks of tree.level, tree.plain. -/
import Derived.Test.YtpbkeamjdolpgaaGreatDoorB05
import Derived.RegionTactic
import Derived.ChangeAlike
import Derived.OwnWalk
import Derived.IntWalk
import Derived.Test.YtpbkeamjdolpgaaGreatDoorB04
namespace Go.Proofs.YtpbkeamjdolpgaaGreatDoor
open Go.RowKit Go.Lib

theorem isBl_nat (c : UInt8) : isBl c = (decide (c.toNat = 32) || decide (c.toNat = 9) || decide (c.toNat = 10) || decide (c.toNat = 13)) := by
  unfold isBl
  rw [Bool.eq_iff_iff]
  simp only [Bool.or_eq_true, beq_iff_eq, decide_eq_true_eq]
  constructor
  · rintro (((rfl | rfl) | rfl) | rfl) <;> simp
  · rintro (((h | h) | h) | h)
    · exact Or.inl (Or.inl (Or.inl (UInt8.toNat_inj.1 h)))
    · exact Or.inl (Or.inl (Or.inr (UInt8.toNat_inj.1 h)))
    · exact Or.inl (Or.inr (UInt8.toNat_inj.1 h))
    · exact Or.inr (UInt8.toNat_inj.1 h)
theorem skip_true (s : ByteArray) (f : Nat) (h : f < s.size) : skipB true (s.data.toList.drop f) = if (s[f]'h).toNat = 10 then skipB false (s.data.toList.drop f) else 1 + skipB true (s.data.toList.drop (f + 1)) := by
  rw [drop_cons s f h]
  by_cases h1 : (s[f]'h) = 10
  · have hb : isBl 10 = true := rfl
    rw [h1, skipB, if_pos rfl, if_pos (show (10 : UInt8).toNat = 10 from rfl), skipB, if_pos hb]
  · rw [skipB, if_neg h1, if_neg (show ¬ (s[f]'h).toNat = 10 from fun h2 => h1 (UInt8.toNat_inj.1 h2))]
theorem skip_end (s : ByteArray) (b : Bool) (f : Nat) (h : ¬ f < s.size) : skipB b (s.data.toList.drop f) = 0 := by
  rw [List.drop_eq_nil_of_le (by rw [← Lib.size_eq]; omega)]
  cases b <;> rfl
theorem skip_false (s : ByteArray) (f : Nat) (h : f < s.size) : skipB false (s.data.toList.drop f) = if isBl (s[f]'h) then 1 + skipB false (s.data.toList.drop (f + 1)) else if (s[f]'h).toNat = 47 ∧ s.data.toList[f + 1]? = some 47 then skipB true (s.data.toList.drop f) else 0 := by
  rw [drop_cons s f h, skip_step, pre2, List.head?_drop]
  by_cases hb : isBl (s[f]'h) = true
  · rw [if_pos hb, if_pos hb]
  · rw [if_neg hb, if_neg hb]
    have e : ((s[f]'h) = 47 ∧ s.data.toList[f + 1]? = some 47) ↔ ((s[f]'h).toNat = 47 ∧ s.data.toList[f + 1]? = some 47) := by
      constructor
      · rintro ⟨h1, h2⟩; exact ⟨by rw [h1]; rfl, h2⟩
      · rintro ⟨h1, h2⟩; exact ⟨UInt8.toNat_inj.1 h1, h2⟩
    by_cases h1 : (s[f]'h) = 47 ∧ s.data.toList[f + 1]? = some 47
    · rw [if_pos (by simpa using h1), if_pos (e.1 h1)]
    · rw [if_neg (by simpa using h1), if_neg (fun h2 => h1 (e.2 h2))]

set_option maxHeartbeats 2000000 in
set_option maxRecDepth 100000 in
theorem rskip_any (s : ByteArray) (p : Nat) (w : World) (hs : s.size ≤ 140737488355328) (hp : p ≤ s.size) :
    Calls Tryz.prog 79 #[.string s, .int .i64 p] w fun e w' => e = .returned (.int .i64 ((p + skipL (s.data.toList.drop p) : Nat) : Int)) ∧ w = w' := by
  obtain ⟨T, hT⟩ : ∃ T, p + skipL (s.data.toList.drop p) = T := ⟨_, rfl⟩
  rw [hT]
  have HT := Lib.hid hT
  have HS := Lib.hid (skip_false s)
  have HTr := Lib.hid (skip_true s)
  have HE := Lib.hid (skip_end s)
  clear hT
  go_enter Tryz.func79, Tryz.ntmps79
  go_wp2_with fail
  go_loop [1] (fun i => ∃ f : Nat, f ≤ s.size ∧ i = .int .i64 f ∧ Hid (f + skipB false (s.data.toList.drop f) = T)) (fun i => s.size - (RowKit.intOf i).toNat)
  case atStart => exact ⟨p, hp, rfl, HT⟩
  case round =>
    obtain ⟨f, hf, rfl, hR⟩ := hrel
    by_cases hlt : f < s.size
    · have h1 := HS.out f hlt
      rw [isBl_nat] at h1
      by_cases hb : (s[f]'hlt).toNat = 32 ∨ (s[f]'hlt).toNat = 9 ∨ (s[f]'hlt).toNat = 10 ∨ (s[f]'hlt).toNat = 13
      · rw [if_pos (by simpa [or_assoc] using hb)] at h1
        have hR2 := hR.out
        rw [h1] at hR2
        have HR := Lib.hid hR2
        clear h1 hR2 hR HS HTr HE HT
        by_cases q1 : (s[f]'hlt).toNat = 32
        · have Q1 : (((s[f]'hlt).toNat : Int) == 32) = true := by simp; omega
          clear hb q1
          go_wp2
          go_round
          case rel => exact ⟨f + 1, by omega, by go_num, by rw [← HR.out]; show _ = _; omega⟩
          case measure => simp [RowKit.intOf]; omega
        · have Q1 : (((s[f]'hlt).toNat : Int) == 32) = false := by simp; omega
          by_cases q2 : (s[f]'hlt).toNat = 9
          · have Q2 : (((s[f]'hlt).toNat : Int) == 9) = true := by simp; omega
            clear hb q1 q2
            go_wp2
            go_round
            case rel => exact ⟨f + 1, by omega, by go_num, by rw [← HR.out]; show _ = _; omega⟩
            case measure => simp [RowKit.intOf]; omega
          · have Q2 : (((s[f]'hlt).toNat : Int) == 9) = false := by simp; omega
            by_cases q3 : (s[f]'hlt).toNat = 10
            · have Q3 : (((s[f]'hlt).toNat : Int) == 10) = true := by simp; omega
              clear hb q1 q2 q3
              go_wp2
              go_round
              case rel => exact ⟨f + 1, by omega, by go_num, by rw [← HR.out]; show _ = _; omega⟩
              case measure => simp [RowKit.intOf]; omega
            · have Q3 : (((s[f]'hlt).toNat : Int) == 10) = false := by simp; omega
              have Q4 : (((s[f]'hlt).toNat : Int) == 13) = true := by simp; omega
              clear hb q1 q2 q3
              go_wp2
              go_round
              case rel => exact ⟨f + 1, by omega, by go_num, by rw [← HR.out]; show _ = _; omega⟩
              case measure => simp [RowKit.intOf]; omega
      · rw [if_neg (by simpa [or_assoc] using hb)] at h1
        have Q1 : (((s[f]'hlt).toNat : Int) == 32) = false := by simp; omega
        have Q2 : (((s[f]'hlt).toNat : Int) == 9) = false := by simp; omega
        have Q3 : (((s[f]'hlt).toNat : Int) == 10) = false := by simp; omega
        have Q4 : (((s[f]'hlt).toNat : Int) == 13) = false := by simp; omega
        have hn10 : ¬ (s[f]'hlt).toNat = 10 := fun h => hb (Or.inr (Or.inr (Or.inl h)))
        clear hb
        by_cases q5 : f + 1 < s.size
        · have Q5 : decide ((f : Int) + 1 < (s.size : Int)) = true := by simp; omega
          rw [get_some s (f + 1) q5] at h1
          by_cases q6 : (s[f]'hlt).toNat = 47
          · have Q6 : (((s[f]'hlt).toNat : Int) == 47) = true := by simp; omega
            by_cases q7 : (s[f + 1]'q5).toNat = 47
            · have Q7 : (((s[f + 1]'q5).toNat : Int) == 47) = true := by simp; omega
              rw [if_pos ⟨q6, by rw [UInt8.toNat_inj.1 (show (s[f + 1]'q5).toNat = (47 : UInt8).toNat from q7)]⟩] at h1
              have hR2 := hR.out
              rw [h1] at hR2
              have HR := Lib.hid hR2
              have Hn10 := Lib.hid hn10
              clear h1 hR2 hR HS HT q6 q7 hn10
              go_wp2_with fail
              go_loop [1] (fun i => ∃ g : Nat, f ≤ g ∧ g ≤ s.size ∧ i = .int .i64 g ∧ Hid (g + skipB true (s.data.toList.drop g) = T)) (fun i => s.size - (RowKit.intOf i).toNat)
              case atStart => exact ⟨f, Nat.le_refl _, by omega, rfl, HR⟩
              case round =>
                obtain ⟨g, hfg, hg, rfl, hR⟩ := hrel
                by_cases hlg : g < s.size
                · have h1 := HTr.out g hlg
                  have hR2 := hR.out
                  by_cases q : (s[g]'hlg).toNat = 10
                  · rw [if_pos q] at h1
                    rw [h1] at hR2
                    have HR2 := Lib.hid hR2
                    have hne : f ≠ g := by rintro rfl; exact Hn10.out q
                    have P1 : (((s[g]'hlg).toNat : Int) != 10) = false := by simp; omega
                    clear h1 hR2 hR q HTr HE
                    go_wp2
                    go_round
                    case rel => exact ⟨g, by omega, by go_num, HR2⟩
                    case measure => simp [RowKit.intOf]; omega
                  · rw [if_neg q] at h1
                    rw [h1] at hR2
                    have HR2 := Lib.hid hR2
                    have P1 : (((s[g]'hlg).toNat : Int) != 10) = true := by simp; omega
                    clear h1 hR2 hR q HTr HE
                    go_wp2
                    go_round
                    case rel => exact ⟨g + 1, by omega, by omega, by go_num, by rw [← HR2.out]; show _ = _; omega⟩
                    case measure => simp [RowKit.intOf]; omega
                · have hR2 := hR.out
                  rw [HE.out true g hlg] at hR2
                  have hx := HE.out false g hlg
                  have HR2 := Lib.hid (show g + skipB false (s.data.toList.drop g) = T by rw [hx]; exact hR2)
                  have hgf : f < g := by omega
                  clear hR2 hR hx HTr HE
                  go_wp2
                  go_round
                  case rel => exact ⟨g, by omega, by go_num, HR2⟩
                  case measure => simp [RowKit.intOf]; omega
            · have Q7 : (((s[f + 1]'q5).toNat : Int) == 47) = false := by simp; omega
              rw [if_neg (fun h => q7 (by rw [Option.some.inj h.2]; rfl))] at h1
              have hR2 := hR.out
              rw [h1] at hR2
              have HR := Lib.hid hR2
              clear h1 hR2 hR HS HTr HE HT q6 q7 hn10
              go_wp2
              go_ret
              exact ⟨ret_i64 (by have := HR.out; omega), rfl⟩
          · have Q6 : (((s[f]'hlt).toNat : Int) == 47) = false := by simp; omega
            rw [if_neg (fun h => q6 h.1)] at h1
            have hR2 := hR.out
            rw [h1] at hR2
            have HR := Lib.hid hR2
            clear h1 hR2 hR HS HTr HE HT q6 hn10
            go_wp2
            go_ret
            exact ⟨ret_i64 (by have := HR.out; omega), rfl⟩
        · have Q5 : decide ((f : Int) + 1 < (s.size : Int)) = false := by simp; omega
          rw [get_none s (f + 1) q5, if_neg (fun h => by cases h.2)] at h1
          have hR2 := hR.out
          rw [h1] at hR2
          have HR := Lib.hid hR2
          clear h1 hR2 hR HS HTr HE HT hn10
          go_wp2
          go_ret
          exact ⟨ret_i64 (by have := HR.out; omega), rfl⟩
    · have hR2 := hR.out
      rw [HE.out false f hlt] at hR2
      have HR := Lib.hid hR2
      clear hR2 hR HS HTr HE HT
      go_wp2
      go_ret
      exact ⟨ret_i64 (by have := HR.out; omega), rfl⟩
end Go.Proofs.YtpbkeamjdolpgaaGreatDoor
namespace Go.Proofs.YtpbkeamjdolpgaaGreatDoor
open Go.RowKit Go.Lib

/-- Is a text a name? -/
def nameOk (l : List UInt8) : Bool := !l.isEmpty && (wordL l).1 == 0 && (wordL l).2 == l.length
/-- The reference's word. -/
def rwordL (l : List UInt8) : Nat × Nat := if 0 < nameL l then (0, nameL l) else if 0 < numL l then (1, numL l) else (2, signL l)
theorem rword_eq (l : List UInt8) : (rwordL l).2 = (wordL l).2 ∧ (0 < (wordL l).2 → rwordL l = wordL l) := by
  unfold rwordL wordL
  split
  · exact ⟨rfl, fun _ => rfl⟩
  · split
    · exact ⟨rfl, fun _ => rfl⟩
    · split
      · exact ⟨rfl, fun _ => rfl⟩
      · exact ⟨by simp only; omega, fun h => by simp at h⟩
theorem nameOk_eq (l : List UInt8) : nameOk l = (decide (0 < l.length) && decide (nameL l = l.length)) := by
  unfold nameOk
  rw [Bool.eq_iff_iff]
  have h1 := nameL_le l
  cases l with
  | nil => simp
  | cons c r =>
    simp only [List.isEmpty_cons, Bool.not_false, Bool.true_and, Bool.and_eq_true, beq_iff_eq, decide_eq_true_eq]
    unfold wordL
    by_cases h : 0 < nameL (c :: r)
    · simp [h]
    · rw [if_neg h]
      have h0 : nameL (c :: r) = 0 := by omega
      rw [h0]
      constructor
      · rintro ⟨h2, h3⟩
        exfalso
        by_cases g1 : 0 < numL (c :: r)
        · rw [if_pos g1] at h2; simp at h2
        · rw [if_neg g1] at h2 h3
          by_cases g2 : 0 < signL (c :: r)
          · rw [if_pos g2] at h2; simp at h2
          · rw [if_neg g2] at h3; simp at h3
      · rintro ⟨_, h3⟩
        simp at h3

set_option maxHeartbeats 1000000 in
theorem lname_any (s : ByteArray) (w : World) (hs : s.size ≤ maxLen) (hG : Gl w) :
    Calls Tryz.prog 149 #[.string s] w fun e w' => e = .returned (.bool (nameOk s.data.toList)) ∧ Below w.heap.size w w' := by
  have cW := word_any s w hs hG
  unfold nameOk
  rw [← Lib.size_eq]
  obtain ⟨k, hk⟩ : ∃ k, (wordL s.data.toList).1 = k := ⟨_, rfl⟩
  obtain ⟨n, hn⟩ : ∃ n, (wordL s.data.toList).2 = n := ⟨_, rfl⟩
  rw [hk, hn] at cW ⊢
  clear hk hn hG hs
  have e1 : s.toList.isEmpty = s.data.toList.isEmpty := by rw [Lib.toList_data]
  have q2 : (k == 0) = ((k : Int) == 0) := by rw [Bool.eq_iff_iff]; simp
  have q3 : (n == s.size) = ((n : Int) == (s.size : Int)) := by rw [Bool.eq_iff_iff]; simp; omega
  rw [q2, q3]
  obtain ⟨B, hB⟩ : ∃ B, ((k : Int) == 0) = B := ⟨_, rfl⟩
  obtain ⟨C, hC⟩ : ∃ C, ((n : Int) == (s.size : Int)) = C := ⟨_, rfl⟩
  rw [hB, hC]
  clear q2 q3
  cases hE : s.data.toList.isEmpty
  · have h1 : s.toList.isEmpty = false := by rw [e1, hE]
    clear e1 hE
    cases B <;> cases C
    all_goals (
      go_enter Tryz.func149, Tryz.ntmps149
      go_wp2_with (first | (go_at_call 64; (with_reducible refine cW.mono ?_); rintro e w1 ⟨rfl, hb⟩))
      go_ret
      exact ⟨rfl, hb⟩)
  · have h1 : s.toList.isEmpty = true := by rw [e1, hE]
    clear e1 hE hB hC
    go_enter Tryz.func149, Tryz.ntmps149
    go_wp2_with (first | (go_at_call 64; (with_reducible refine cW.mono ?_); rintro e w1 ⟨rfl, hb⟩))
    go_ret
    exact ⟨rfl, hb⟩

set_option maxHeartbeats 1000000 in
theorem rName_any (s : ByteArray) (w : World) (hs : s.size ≤ maxLen) (hG : Gl w) :
    Calls Tryz.prog 191 #[.string s] w fun e w' => e = .returned (.bool (nameOk s.data.toList)) ∧ Below w.heap.size w w' := by
  have cW : Calls Tryz.prog 137 #[.string s, .int .i64 0] w fun e w' => e = .returned (.int .i64 (nameL s.data.toList)) ∧ Below w.heap.size w w' := by
    have h := rname_any s 0 w hs (Nat.zero_le _) hG
    rw [List.drop_zero, Nat.zero_add] at h
    exact h
  rw [nameOk_eq, ← Lib.size_eq]
  obtain ⟨n, hn⟩ : ∃ n, nameL s.data.toList = n := ⟨_, rfl⟩
  rw [hn] at cW ⊢
  clear hn hG hs
  have q3 : decide (n = s.size) = ((n : Int) == (s.size : Int)) := by rw [Bool.eq_iff_iff]; simp; omega
  rw [q3]
  obtain ⟨B, hB⟩ : ∃ B, decide (0 < s.size) = B := ⟨_, rfl⟩
  obtain ⟨C, hC⟩ : ∃ C, ((n : Int) == (s.size : Int)) = C := ⟨_, rfl⟩
  rw [hB, hC]
  clear q3
  cases B <;> cases C
  all_goals (
    go_enter Tryz.func191, Tryz.ntmps191
    go_wp2_with (first | (go_at_call 137; (with_reducible refine cW.mono ?_); rintro e w1 ⟨rfl, hb⟩))
    go_ret
    exact ⟨rfl, hb⟩)

set_option maxHeartbeats 1000000 in
theorem rword_any (s : ByteArray) (p : Nat) (w : World) (hs : s.size ≤ 140737488355328) (hp : p ≤ s.size) (hG : Gl w) :
    Calls Tryz.prog 80 #[.string s, .int .i64 p] w fun e w' => e = .returned (.tuple #[.int .i64 (rwordL (s.data.toList.drop p)).1, .int .i64 ((p + (rwordL (s.data.toList.drop p)).2 : Nat) : Int)]) ∧ Below w.heap.size w w' := by
  have c1 := rname_any s p w (by unfold maxLen; omega) hp hG
  have c2 := fun W => rnumber_any s p W hs hp
  have c3 := fun W => rsign_any s p W hs hp
  unfold rwordL
  obtain ⟨a, ha⟩ : ∃ a, nameL (s.data.toList.drop p) = a := ⟨_, rfl⟩
  obtain ⟨b, hb⟩ : ∃ b, numL (s.data.toList.drop p) = b := ⟨_, rfl⟩
  obtain ⟨c, hc⟩ : ∃ c, signL (s.data.toList.drop p) = c := ⟨_, rfl⟩
  rw [ha] at c1 ⊢
  rw [hb] at c2 ⊢
  rw [hc] at c3 ⊢
  obtain ⟨A, hA⟩ : ∃ A, p + a = A := ⟨_, rfl⟩
  obtain ⟨B, hB⟩ : ∃ B, p + b = B := ⟨_, rfl⟩
  obtain ⟨C, hC⟩ : ∃ C, p + c = C := ⟨_, rfl⟩
  rw [hA] at c1
  rw [hB] at c2
  rw [hC] at c3
  clear ha hb hc hG
  by_cases h1 : 0 < a
  · have Q1 : decide (p < A) = true := by simp; omega
    rw [if_pos h1, hA]
    clear h1 c2 c3 hA hB hC
    go_enter Tryz.func80, Tryz.ntmps80
    go_wp2_with (first | (go_at_call 137; (with_reducible refine c1.mono ?_); rintro e w1 ⟨rfl, hb⟩))
    go_ret2
    exact ⟨rfl, hb⟩
  · have Q1 : decide (p < A) = false := by simp; omega
    rw [if_neg h1]
    by_cases h2 : 0 < b
    · have Q2 : decide (p < B) = true := by simp; omega
      rw [if_pos h2, hB]
      clear h1 h2 c3 hA hB hC
      go_enter Tryz.func80, Tryz.ntmps80
      go_wp2_with (first | (go_at_call 137; (with_reducible refine c1.mono ?_); rintro e w1 ⟨rfl, hb⟩) | (go_at_call 138; (with_reducible refine (c2 _).mono ?_); rintro e w2 ⟨rfl, rfl⟩))
      go_ret2
      exact ⟨rfl, hb⟩
    · have Q2 : decide (p < B) = false := by simp; omega
      rw [if_neg h2, hC]
      clear h1 h2 hA hB hC
      go_enter Tryz.func80, Tryz.ntmps80
      go_wp2_with (first | (go_at_call 137; (with_reducible refine c1.mono ?_); rintro e w1 ⟨rfl, hb⟩) | (go_at_call 138; (with_reducible refine (c2 _).mono ?_); rintro e w2 ⟨rfl, rfl⟩) | (go_at_call 139; (with_reducible refine (c3 _).mono ?_); rintro e w3 ⟨rfl, hb3⟩))
      go_ret2
      exact ⟨rfl, tr hb hb3⟩
end Go.Proofs.YtpbkeamjdolpgaaGreatDoor
namespace Go.Proofs.YtpbkeamjdolpgaaGreatDoor
open Go.RowKit Go.Lib

def contL (acc : List Tk) : Except Flt (List Tk) → Except Flt (List Tk)
  | .ok ts => .ok (acc ++ ts)
  | .error e => .error e

/-- What lexer.Tokens hands back. -/
def TokEnd (R : Except Flt (List Tk)) (w : World) (e : Ending) (w' : World) : Prop :=
  Below w.heap.size w w' ∧ match R with
  | .ok ts => ∃ v, e = .returned (.tuple #[v, .nilIface]) ∧ w'.ownsRow w.heap.size 46 3 v ts.length (tkFlat ts)
  | .error f => ∃ b, w.heap.size ≤ b ∧ e = .returned (.tuple #[.slice none 0 0, .iface 23 (.pointer (some ⟨b, 0, none⟩))]) ∧
      w'.heap[b]? = some (.cells #[.int .i64 f.1, .int .i64 f.2.1, .string ⟨f.2.2.toArray⟩] 61 (0, 0))

theorem toksL_step (g n p : Nat) (l : List UInt8) (h : l ≠ []) : toksL (g + 1) n p l =
    if (wordL l).2 = 0 then .error (260, p, l.take (dec l).2)
    else if n = 4096 then .error (3, p, l.take (wordL l).2)
    else match toksL g (n + 1) (p + (wordL l).2 + skipL (l.drop (wordL l).2)) (l.drop ((wordL l).2 + skipL (l.drop (wordL l).2))) with
      | .ok ts => .ok (((wordL l).1, l.take (wordL l).2, p) :: ts)
      | .error e => .error e := by
  rw [toksL, if_neg h]
  rfl
theorem contL_cons (acc : List Tk) (t : Tk) (X : Except Flt (List Tk)) : contL acc (match X with | .ok ts => .ok (t :: ts) | .error e => .error e) = contL (acc ++ [t]) X := by
  cases X <;> simp [contL]
theorem extract_mk (s : ByteArray) (p m : Nat) : s.extract p (p + m) = ⟨((s.data.toList.drop p).take m).toArray⟩ := by
  have h := Lib.extract_data s p (p + m)
  rw [show p + m - p = m by omega] at h
  rw [← h]
theorem Tryz.infoTok : (Tryz.prog.info? 46).map (fun i => (i.zero, i.size, i.bytes)) = some (some (.agg #[.int .i64 0, .string ⟨#[]⟩, .int .i64 0]), 3, 32) := by kernel_rfl

set_option maxHeartbeats 2000000 in
set_option maxRecDepth 100000 in
theorem tokens_long (s : ByteArray) (w : World) (h : 65536 < s.size) :
    Calls Tryz.prog 30 #[.string s] w (TokEnd (tokensL s.data.toList) w) := by
  have hr : tokensL s.data.toList = .error (3, 0, []) := by unfold tokensL; rw [if_pos (by rw [← Lib.size_eq]; exact h)]
  rw [hr]
  have Q : decide ((s.size : Int) > 65536) = true := by simp; omega
  clear hr h
  go_enter Tryz.func30, Tryz.ntmps30
  go_wp2
  go_ret2
  refine ⟨(Below.refl _ _).alloc (Nat.le_refl _) _, w.heap.size, Nat.le_refl _, rfl, ?_⟩
  exact heap_alloc_new w _

set_option maxHeartbeats 4000000 in
set_option maxRecDepth 100000 in
theorem tokens_any (s : ByteArray) (w : World) (hs : s.size ≤ 65536) (hG : Gl w) :
    Calls Tryz.prog 30 #[.string s] w (TokEnd (tokensL s.data.toList) w) := by
  have hr : tokensL s.data.toList = toksL s.size 0 (skipL s.data.toList) (s.data.toList.drop (skipL s.data.toList)) := by unfold tokensL; rw [if_neg (by rw [← Lib.size_eq]; omega), Lib.size_eq]
  have hr2 : contL [] (toksL s.size 0 (skipL s.data.toList) (s.data.toList.drop (skipL s.data.toList))) = tokensL s.data.toList := by
    rw [hr]
    cases toksL s.size 0 (skipL s.data.toList) (s.data.toList.drop (skipL s.data.toList)) <;> simp [contL]
  obtain ⟨R, hR⟩ : ∃ R, tokensL s.data.toList = R := ⟨_, rfl⟩
  rw [hR] at hr2 ⊢
  have HR := Lib.hid hr2
  have hsk := skipB_le false s.data.toList
  rw [← Lib.size_eq] at hsk
  have hsk2 : skipL s.data.toList ≤ s.size := hsk
  have c0 := lskip_any s w (by unfold maxLen; omega)
  obtain ⟨P0, hP0⟩ : ∃ P0, skipL s.data.toList = P0 := ⟨_, rfl⟩
  rw [hP0] at HR hsk2 c0
  have Q : decide ((s.size : Int) > 65536) = false := by simp; omega
  clear hr hr2 hR hsk hP0
  obtain ⟨i0, hi, hz0, hz1, hz2⟩ := info_parts Tryz.infoTok
  go_enter Tryz.func30, Tryz.ntmps30
  go_wp2_with (first | (go_at_call 63; (with_reducible refine c0.mono ?_); rintro e w1 ⟨rfl, hb1⟩))
  go_loopg [4, 5] s.size (fun gf v i wx => ∃ (p : Nat) (acc : List Tk), i = .int .i64 p ∧ p ≤ s.size ∧ Below w.heap.size w wx ∧ wx.ownsRow w.heap.size 46 3 v acc.length (tkFlat acc) ∧ acc.length ≤ 4096 ∧ Hid (contL acc (toksL gf acc.length p (s.data.toList.drop p)) = R) ∧ s.size ≤ p + gf)
  case atStart => exact ⟨P0, [], rfl, hsk2, hb1, World.ownsRow_nil _ _ _ _, by simp, HR, by omega⟩
  case round =>
    obtain ⟨p, acc, rfl, hp, hb, hown, hlen, hS, hfu⟩ := hrel
    by_cases hlt : p < s.size
    · obtain ⟨g', rfl⟩ : ∃ g', gk = g' + 1 := ⟨gk - 1, by omega⟩
      have hxl : (s.extract p s.size).data.toList = s.data.toList.drop p := Lib.extract_to_end _ _
      have hxs : (s.extract p s.size).size = s.size - p := by rw [Lib.size_eq (s.extract _ _), hxl, List.length_drop, ← Lib.size_eq]
      have cW := word_any (s.extract p s.size) wr (by unfold maxLen; omega) (hG.below hb)
      have cD := fun w1 (hb1 : Below wr.heap.size wr w1) => Tryz.utf8_DecodeRuneInString (s.extract p s.size) w1 ((hG.below hb).below hb1).2.2.2
      rw [decGo s p hlt] at cD
      rw [hxl] at cW
      have cS := fun q (hq : q ≤ s.size) W => lskip_any (s.extract q s.size) W (by rw [Lib.size_eq (s.extract _ _), Lib.extract_to_end, List.length_drop, ← Lib.size_eq]; unfold maxLen; omega)
      simp only [Lib.extract_to_end] at cS
      have hext := extract_mk s p
      obtain ⟨l, hl⟩ : ∃ l, s.data.toList.drop p = l := ⟨_, rfl⟩
      have hln : l.length = s.size - p := by rw [← hl, List.length_drop, ← Lib.size_eq]
      have hlne : l ≠ [] := by intro h; rw [h] at hln; simp at hln; omega
      have hdrop : ∀ K, s.data.toList.drop (p + K) = l.drop K := fun K => by rw [← hl, List.drop_drop]
      rw [hl] at cW cD hS
      simp only [hl] at hext
      have hS2 := hS.out
      rw [toksL_step _ _ _ _ hlne] at hS2
      have hwl := wordL_le l
      have hdl := dec_le l hlne
      have hd1 := dec_ge1 l
      have hsk := skipB_le false (l.drop (wordL l).2)
      rw [List.length_drop] at hsk
      obtain ⟨k, hk⟩ : ∃ k, (wordL l).1 = k := ⟨_, rfl⟩
      obtain ⟨n, hn⟩ : ∃ n, (wordL l).2 = n := ⟨_, rfl⟩
      obtain ⟨r, hr⟩ : ∃ r, (dec l).1 = r := ⟨_, rfl⟩
      obtain ⟨m, hm⟩ : ∃ m, (dec l).2 = m := ⟨_, rfl⟩
      rw [hk, hn] at cW hS2
      rw [hr, hm] at cD
      rw [hm] at hS2 hdl hd1
      rw [hn] at hwl hsk
      clear hS hk hn hr hm hxl hxs hlne hl hG
      by_cases h0 : n = 0
      · have Q0 : ((n : Int) == 0) = true := by simp; omega
        rw [if_pos h0] at hS2
        simp only [contL] at hS2
        have HS := Lib.hid hS2
        have HX := Lib.hid (hext m)
        clear hS2 h0 cS hext hdrop hsk hwl
        go_wp2_with (first | (go_at_call 64; (with_reducible refine cW.mono ?_); rintro e w1 ⟨rfl, hb1⟩) | (go_at_call 65; (with_reducible refine (cD _ hb1).mono ?_); rintro e w2 ⟨rfl, hb2⟩))
        clear cD cW Q0 Q
        have hpm : p + m ≤ s.size := by omega
        have X1 : IntKind.i64.wrap ((p : Int) + (m : Int)) = (p : Int) + (m : Int) := IntWalk.i64_in _ (by omega)
        have X2 : 0 ≤ (p : Int) + (m : Int) := by omega
        have X3 : ((p : Int) + (m : Int)).toNat = p + m := by omega
        go_region
        go_wp2
        go_ret2
        refine ⟨?_, ?_⟩
        · exact ((tr (tr hb hb1) hb2).alloc (tr (tr hb hb1) hb2).size _).drew
        · rw [← HS.out]
          refine ⟨w2.heap.size, (tr (tr hb hb1) hb2).size, rfl, ?_⟩
          rw [← HX.out]
          exact heap_alloc_new w2 _
      · have Q0 : ((n : Int) == 0) = false := by simp; omega
        rw [if_neg h0] at hS2
        by_cases h1 : acc.length = 4096
        · have Q1 : ((acc.length : Int) == 4096) = true := by simp; omega
          rw [if_pos h1] at hS2
          simp only [contL] at hS2
          have HS := Lib.hid hS2
          have HX := Lib.hid (hext n)
          obtain ⟨va, vc, rfl⟩ := own_shape hown
          have hpm : p + n ≤ s.size := by omega
          have X1 : IntKind.i64.wrap ((p : Int) + (n : Int)) = (p : Int) + (n : Int) := IntWalk.i64_in _ (by omega)
          have X2 : 0 ≤ (p : Int) + (n : Int) := by omega
          have X3 : ((p : Int) + (n : Int)).toNat = p + n := by omega
          clear hS2 h0 cS hext hdrop hsk hwl h1 cD
          go_wp2_with (first | (go_at_call 64; (with_reducible refine cW.mono ?_); rintro e w1 ⟨rfl, hb1⟩))
          go_region
          go_wp2
          go_ret2
          refine ⟨?_, ?_⟩
          · exact ((tr hb hb1).alloc (tr hb hb1).size _).drew
          · rw [← HS.out]
            refine ⟨w1.heap.size, (tr hb hb1).size, rfl, ?_⟩
            rw [← HX.out]
            exact heap_alloc_new w1 _
        · have Q1 : ((acc.length : Int) == 4096) = false := by simp; omega
          rw [if_neg h1, contL_cons] at hS2
          have hn0 : 0 < n := by omega
          have HS := Lib.hid hS2
          have HX := Lib.hid (hext n)
          have HD := Lib.hid hdrop
          obtain ⟨q, hq⟩ : ∃ q, skipL (l.drop n) = q := ⟨_, rfl⟩
          have hsk2 : q ≤ l.length - n := by rw [← hq]; exact hsk
          have cSn : ∀ W, Calls Tryz.prog 63 #[.string (s.extract (p + n) s.size)] W fun e w' => e = .returned (.int .i64 q) ∧ Below W.heap.size W w' := fun W => by
            have h := cS (p + n) (by omega) W
            rw [hdrop, hq] at h
            exact h
          have HQ := Lib.hid hq
          have hpm : p + n ≤ s.size := by omega
          have hshape := own_shape hown
          obtain ⟨va, vc, rfl⟩ := hshape
          clear hS2 h0 cS hext hdrop hsk hq cD
          have hlen2 : acc.length < 4096 := by omega
          clear h1
          go_wp2_with (first | (go_at_call 64; (with_reducible refine cW.mono ?_); rintro e w1 ⟨rfl, hb1⟩; have hown1 := own_below hown hb1) | (at_builtin; refine wpList_append_own _ rfl (.tmp 69) (.tmp 79) 41 rfl (w.heap.size) 46 i0 (.agg #[.int .i64 0, .string ⟨#[]⟩, .int .i64 0]) 3 32 Tryz.underlying41 hi hz0 hz1 hz2 rfl (by decide) _ _ _ rfl (hown1.alloc _) ⟨w1.heap.size, 0, none⟩ 1 1 [.int .i64 (k : Int), .string (s.extract p (p + n)), .int .i64 (p : Int)] rfl rfl (cell_three_new _ _ _ _ _) (fun x hx => by simp at hx; rcases hx with rfl | rfl | rfl <;> rfl) (by unfold maxLen; omega) (by omega) (by have := hb.size; have := hb1.size; simp; omega) ?_; intro v' w3 hown' hgrow3 hnil3) | (go_at_call 63; (with_reducible refine (cSn _).mono ?_); rintro e w4 ⟨rfl, hb4⟩))
          have hbw3 : Below w.heap.size w w3 := Below.grown ((tr hb hb1).alloc (tr hb hb1).size _) hgrow3 (by have := (tr hb hb1).size; simp; omega) (fun j hj => (hown1.lt _ hj).1)
          go_roundg g'
          case measure => omega
          case rel =>
            refine ⟨p + n + q, acc ++ [(k, l.take n, p)], by go_num, by omega, tr hbw3 hb4, ?_, by simp; omega, ?_, by omega⟩
            · have h := own_below hown' hb4
              rw [tkFlat_app, tkFlat_one]
              simp only [tkCells]
              rw [← HX.out]
              simpa using h
            · have h := HS.out
              rw [HQ.out] at h
              rw [Nat.add_assoc p n q, HD.out, List.length_append, List.length_singleton]
              rw [Nat.add_assoc p n q] at h
              exact h
    · have hnil : s.data.toList.drop p = [] := List.drop_eq_nil_of_le (by rw [← Lib.size_eq]; omega)
      have hS2 := hS.out
      have htk : toksL gk acc.length p [] = .ok [] := by cases gk <;> simp [toksL]
      rw [hnil, htk] at hS2
      simp only [contL, List.append_nil] at hS2
      have HS := Lib.hid hS2
      clear hS2 hS hnil htk
      go_wp2
      go_ret2
      refine ⟨hb, ?_⟩
      rw [← HS.out]
      exact ⟨_, rfl, hown⟩
end Go.Proofs.YtpbkeamjdolpgaaGreatDoor
namespace Go.Proofs.YtpbkeamjdolpgaaGreatDoor
open Go.RowKit Go.Lib

theorem tokens_all (s : ByteArray) (w : World) (hG : Gl w) : Calls Tryz.prog 30 #[.string s] w (TokEnd (tokensL s.data.toList) w) := by
  by_cases h : s.size ≤ 65536
  · exact tokens_any s w h hG
  · exact tokens_long s w (by omega)

end Go.Proofs.YtpbkeamjdolpgaaGreatDoor
namespace Go.Proofs.YtpbkeamjdolpgaaGreatDoor
open Go.RowKit Go.Lib Go.Shelf

theorem plain_ok (s : List UInt8) : plainR s = (nameOk s && !resv s) := by
  unfold plainR
  rw [nameOk_eq]
  by_cases h : nameL s = s.length
  · rw [h]
  · simp [h]
set_option maxHeartbeats 4000000 in
set_option maxRecDepth 100000 in
theorem plain_any (s : List UInt8) (w : World) (hs : s.length ≤ 2 ^ 47) (hG : Gl w) :
    Calls Tryz.prog 94 #[.string ⟨s.toArray⟩] w (Yes (plainR s) w) := by
  have c1 := lname_any ⟨s.toArray⟩ w (by unfold maxLen; show s.toArray.size ≤ _; simp; omega) hG
  have c2 := fun w1 => reserved_any s w1
  rw [plain_ok]
  have e : (⟨s.toArray⟩ : ByteArray).data.toList = s := rfl
  rw [e] at c1
  cases hN : nameOk s
  · rw [hN] at c1
    rw [Bool.false_and]
    clear hN hs hG e
    go_enter Tryz.func94, Tryz.ntmps94
    go_wp2_with fail
    refine c1.mono ?_
    clear c1
    rintro e w1 ⟨rfl, hb1⟩
    go_wp2_with fail
    go_ret
    exact ⟨rfl, hb1⟩
  · rw [hN] at c1
    rw [Bool.true_and]
    clear hN hs hG e
    go_enter Tryz.func94, Tryz.ntmps94
    go_wp2_with fail
    refine c1.mono ?_
    clear c1
    rintro e w1 ⟨rfl, hb1⟩
    go_wp2_with fail
    refine (c2 _).mono ?_
    clear c2
    rintro e w2 ⟨rfl, hb2⟩
    go_wp2_with fail
    go_ret
    exact ⟨rfl, tr hb1 hb2⟩
theorem levelS_at {s : List UInt8} {i : Nat} (hi : i < 5) (h : ∀ k, k < i → s ∉ signsK k) (hs : s ∈ signsK i) : levelS s = i + 1 := by
  unfold levelS
  match i, hi with
  | 0, _ => rw [if_pos hs]
  | 1, _ => rw [if_neg (h 0 (by omega)), if_pos hs]
  | 2, _ => rw [if_neg (h 0 (by omega)), if_neg (h 1 (by omega)), if_pos hs]
  | 3, _ => rw [if_neg (h 0 (by omega)), if_neg (h 1 (by omega)), if_neg (h 2 (by omega)), if_pos hs]
  | 4, _ => rw [if_neg (h 0 (by omega)), if_neg (h 1 (by omega)), if_neg (h 2 (by omega)), if_neg (h 3 (by omega)), if_pos hs]
theorem levelS_no {s : List UInt8} (h : ∀ k, k < 5 → s ∉ signsK k) : levelS s = 0 := by
  unfold levelS
  rw [if_neg (h 0 (by omega)), if_neg (h 1 (by omega)), if_neg (h 2 (by omega)), if_neg (h 3 (by omega)), if_neg (h 4 (by omega))]
set_option maxHeartbeats 4000000 in
set_option maxRecDepth 100000 in
theorem levelC_any (s : List UInt8) (w : World) :
    Calls Tryz.prog 187 #[.string ⟨s.toArray⟩] w fun e w' => e = .returned (.int .i64 (levelS s)) ∧ Below w.heap.size w w' := by
  have c0 := signs_any w
  obtain ⟨L, hL⟩ : ∃ L, levelS s = L := ⟨_, rfl⟩
  rw [hL]
  have HL := Lib.hid hL
  clear hL
  go_enter Tryz.func187, Tryz.ntmps187
  go_wp2_with fail
  refine c0.mono ?_
  clear c0
  rintro e w1 ⟨rfl, hb1, hS⟩
  have HS := Lib.hid hS
  clear hS
  generalize w.heap.size + 1 = g at *
  have ix0 : ∀ wx : World, (Instr.index 219 (.agg (sgArr g)) (.int .i64 0)).run Tryz.prog wx = .ok (sgV g 0) wx := fun wx => by kernel_rfl
  have ix1 : ∀ wx : World, (Instr.index 219 (.agg (sgArr g)) (.int .i64 1)).run Tryz.prog wx = .ok (sgV (g + 1) 1) wx := fun wx => by kernel_rfl
  have ix2 : ∀ wx : World, (Instr.index 219 (.agg (sgArr g)) (.int .i64 2)).run Tryz.prog wx = .ok (sgV (g + 2) 2) wx := fun wx => by kernel_rfl
  have ix3 : ∀ wx : World, (Instr.index 219 (.agg (sgArr g)) (.int .i64 3)).run Tryz.prog wx = .ok (sgV (g + 3) 3) wx := fun wx => by kernel_rfl
  have ix4 : ∀ wx : World, (Instr.index 219 (.agg (sgArr g)) (.int .i64 4)).run Tryz.prog wx = .ok (sgV (g + 4) 4) wx := fun wx => by kernel_rfl
  have ix : ∀ (k : Nat) (hk : k ≤ 4) (wx : World), (Instr.index 219 (.agg (sgArr g)) (.int .i64 k)).run Tryz.prog wx = .ok (.slice (some ⟨g + k, 0, none⟩) (signsK k).length (signsK k).length) wx := by
    intro k hk wx
    match k, hk with
    | 0, _ => exact ix0 wx
    | 1, _ => exact ix1 wx
    | 2, _ => exact ix2 wx
    | 3, _ => exact ix3 wx
    | 4, _ => exact ix4 wx
  have IX := Lib.hid ix
  clear ix ix0 ix1 ix2 ix3 ix4
  go_wp2_with fail
  go_loopw [6] (fun v wx => ∃ i : Nat, v = .int .i64 i ∧ i ≤ 5 ∧ Below w.heap.size w wx ∧ SgAll wx g ∧ Hid (∀ k, k < i → s ∉ signsK k)) (fun v _ => 5 - (RowKit.intOf v).toNat)
  case atStart => exact ⟨0, rfl, by omega, hb1, HS.out, fun k hk => by omega⟩
  case round =>
    obtain ⟨i, rfl, hi, hb, hsg, hf⟩ := hrel
    by_cases hlt : i < 5
    · have hix := IX.out i (by omega)
      have hlen : (signsK i).length ≤ 4096 := by
        match i, hlt with
        | 0, _ => decide
        | 1, _ => decide
        | 2, _ => decide
        | 3, _ => decide
        | 4, _ => decide
      have c1 := contains_any (signsK i) (signsK i).length rfl hlen (g + i) 0 (signsK i).length s wr (hsg i (by omega)).1
      obtain ⟨nl, hnl⟩ : ∃ nl, (signsK i).length = nl := ⟨_, rfl⟩
      rw [hnl] at c1 hix
      have HSG := Lib.hid hsg
      have hb5 : (i : Int) < 5 := by omega
      have Qi : IntKind.i64.wrap ((i : Int) + 1) = (i : Int) + 1 := IntWalk.i64_in _ (by omega)
      cases hB : decide (s ∈ signsK i)
      · rw [hB] at c1
        have hf2 : Hid (∀ k, k < i + 1 → s ∉ signsK k) := fun k hk => by
          by_cases e : k = i
          · subst e
            simpa using hB
          · exact hf.out k (by omega)
        clear hB hlen hnl hsg hf
        go_wp2_with fail
        refine c1.mono ?_
        clear c1
        rintro e w2 ⟨rfl, rfl⟩
        go_wp2_with fail
        go_roundw
        case rel => exact ⟨i + 1, by go_num, by omega, hb, HSG.out, hf2⟩
        case measure => simp [RowKit.intOf]; omega
      · rw [hB] at c1
        have hf2 : Hid (L = i + 1) := by
          have h1 := levelS_at hlt hf.out (by simpa using hB)
          exact HL.out.symm.trans h1
        clear hB hlen hnl hsg hf
        go_wp2_with fail
        refine c1.mono ?_
        clear c1
        rintro e w2 ⟨rfl, rfl⟩
        go_wp2_with fail
        go_ret
        exact ⟨by rw [hf2.out]; rfl, hb⟩
    · have hf2 : Hid (L = 0) := by
        have h1 := levelS_no (s := s) (fun k hk => hf.out k (by omega))
        exact HL.out.symm.trans h1
      have hb5 : ¬ (i : Int) < 5 := by omega
      clear hsg hf
      go_wp2_with fail
      go_ret
      exact ⟨by rw [hf2.out]; rfl, hb⟩
end Go.Proofs.YtpbkeamjdolpgaaGreatDoor
