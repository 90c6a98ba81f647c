/- The walks of lexer.Name, of the reference's word, Name, Is. -/
import Derived.Test.YtibnpbfggbbchaaDoorLexI
namespace Go.Proofs.YtibnpbfggbbchaaDoor
open Go.RowKit Go.Lib

/-- Is a text a name? -/
def nameOk (l : List UInt8) : Bool := !l.isEmpty && (wordL l).1 == 0 && (wordL l).2 == l.length
/-- The reference's word. -/
def rwordL (l : List UInt8) : Nat × Nat := if 0 < nameL l then (0, nameL l) else if 0 < numL l then (1, numL l) else (2, signL l)
theorem rword_eq (l : List UInt8) : (rwordL l).2 = (wordL l).2 ∧ (0 < (wordL l).2 → rwordL l = wordL l) := by
  unfold rwordL wordL
  split
  · exact ⟨rfl, fun _ => rfl⟩
  · split
    · exact ⟨rfl, fun _ => rfl⟩
    · split
      · exact ⟨rfl, fun _ => rfl⟩
      · exact ⟨by simp only; omega, fun h => by simp at h⟩
theorem nameOk_eq (l : List UInt8) : nameOk l = (decide (0 < l.length) && decide (nameL l = l.length)) := by
  unfold nameOk
  rw [Bool.eq_iff_iff]
  have h1 := nameL_le l
  cases l with
  | nil => simp
  | cons c r =>
    simp only [List.isEmpty_cons, Bool.not_false, Bool.true_and, Bool.and_eq_true, beq_iff_eq, decide_eq_true_eq]
    unfold wordL
    by_cases h : 0 < nameL (c :: r)
    · simp [h]
    · rw [if_neg h]
      have h0 : nameL (c :: r) = 0 := by omega
      rw [h0]
      constructor
      · rintro ⟨h2, h3⟩
        exfalso
        by_cases g1 : 0 < numL (c :: r)
        · rw [if_pos g1] at h2; simp at h2
        · rw [if_neg g1] at h2 h3
          by_cases g2 : 0 < signL (c :: r)
          · rw [if_pos g2] at h2; simp at h2
          · rw [if_neg g2] at h3; simp at h3
      · rintro ⟨_, h3⟩
        simp at h3

set_option maxHeartbeats 1000000 in
theorem name_any (s : ByteArray) (w : World) (hs : s.size ≤ maxLen) (hG : Gl w) :
    Calls Tryd.prog 10 #[.string s] w fun e w' => e = .returned (.bool (nameOk s.data.toList)) ∧ Below w.heap.size w w' := by
  have cW := word_any s w hs hG
  unfold nameOk
  rw [← Lib.size_eq]
  obtain ⟨k, hk⟩ : ∃ k, (wordL s.data.toList).1 = k := ⟨_, rfl⟩
  obtain ⟨n, hn⟩ : ∃ n, (wordL s.data.toList).2 = n := ⟨_, rfl⟩
  rw [hk, hn] at cW ⊢
  clear hk hn hG hs
  have e1 : s.toList.isEmpty = s.data.toList.isEmpty := by rw [Lib.toList_data]
  have q2 : (k == 0) = ((k : Int) == 0) := by rw [Bool.eq_iff_iff]; simp
  have q3 : (n == s.size) = ((n : Int) == (s.size : Int)) := by rw [Bool.eq_iff_iff]; simp; omega
  rw [q2, q3]
  obtain ⟨B, hB⟩ : ∃ B, ((k : Int) == 0) = B := ⟨_, rfl⟩
  obtain ⟨C, hC⟩ : ∃ C, ((n : Int) == (s.size : Int)) = C := ⟨_, rfl⟩
  rw [hB, hC]
  clear q2 q3
  cases hE : s.data.toList.isEmpty
  · have h1 : s.toList.isEmpty = false := by rw [e1, hE]
    clear e1 hE
    cases B <;> cases C
    all_goals (
      go_enter Tryd.func10, Tryd.ntmps10
      go_wp2_with (first | (go_at_call 21; (with_reducible refine cW.mono ?_); rintro e w1 ⟨rfl, hb⟩))
      go_ret
      exact ⟨rfl, hb⟩)
  · have h1 : s.toList.isEmpty = true := by rw [e1, hE]
    clear e1 hE hB hC
    go_enter Tryd.func10, Tryd.ntmps10
    go_wp2_with (first | (go_at_call 21; (with_reducible refine cW.mono ?_); rintro e w1 ⟨rfl, hb⟩))
    go_ret
    exact ⟨rfl, hb⟩

set_option maxHeartbeats 1000000 in
theorem rName_any (s : ByteArray) (w : World) (hs : s.size ≤ maxLen) (hG : Gl w) :
    Calls Tryd.prog 11 #[.string s] w fun e w' => e = .returned (.bool (nameOk s.data.toList)) ∧ Below w.heap.size w w' := by
  have cW : Calls Tryd.prog 22 #[.string s, .int .i64 0] w fun e w' => e = .returned (.int .i64 (nameL s.data.toList)) ∧ Below w.heap.size w w' := by
    have h := rname_any s 0 w hs (Nat.zero_le _) hG
    rw [List.drop_zero, Nat.zero_add] at h
    exact h
  rw [nameOk_eq, ← Lib.size_eq]
  obtain ⟨n, hn⟩ : ∃ n, nameL s.data.toList = n := ⟨_, rfl⟩
  rw [hn] at cW ⊢
  clear hn hG hs
  have q3 : decide (n = s.size) = ((n : Int) == (s.size : Int)) := by rw [Bool.eq_iff_iff]; simp; omega
  rw [q3]
  obtain ⟨B, hB⟩ : ∃ B, decide (0 < s.size) = B := ⟨_, rfl⟩
  obtain ⟨C, hC⟩ : ∃ C, ((n : Int) == (s.size : Int)) = C := ⟨_, rfl⟩
  rw [hB, hC]
  clear q3
  cases B <;> cases C
  all_goals (
    go_enter Tryd.func11, Tryd.ntmps11
    go_wp2_with (first | (go_at_call 22; (with_reducible refine cW.mono ?_); rintro e w1 ⟨rfl, hb⟩))
    go_ret
    exact ⟨rfl, hb⟩)

set_option maxHeartbeats 1000000 in
theorem rword_any (s : ByteArray) (p : Nat) (w : World) (hs : s.size ≤ 140737488355328) (hp : p ≤ s.size) (hG : Gl w) :
    Calls Tryd.prog 27 #[.string s, .int .i64 p] w fun e w' => e = .returned (.tuple #[.int .i64 (rwordL (s.data.toList.drop p)).1, .int .i64 ((p + (rwordL (s.data.toList.drop p)).2 : Nat) : Int)]) ∧ Below w.heap.size w w' := by
  have c1 := rname_any s p w (by unfold maxLen; omega) hp hG
  have c2 := fun W => rnumber_any s p W hs hp
  have c3 := fun W => rsign_any s p W hs hp
  unfold rwordL
  obtain ⟨a, ha⟩ : ∃ a, nameL (s.data.toList.drop p) = a := ⟨_, rfl⟩
  obtain ⟨b, hb⟩ : ∃ b, numL (s.data.toList.drop p) = b := ⟨_, rfl⟩
  obtain ⟨c, hc⟩ : ∃ c, signL (s.data.toList.drop p) = c := ⟨_, rfl⟩
  rw [ha] at c1 ⊢
  rw [hb] at c2 ⊢
  rw [hc] at c3 ⊢
  obtain ⟨A, hA⟩ : ∃ A, p + a = A := ⟨_, rfl⟩
  obtain ⟨B, hB⟩ : ∃ B, p + b = B := ⟨_, rfl⟩
  obtain ⟨C, hC⟩ : ∃ C, p + c = C := ⟨_, rfl⟩
  rw [hA] at c1
  rw [hB] at c2
  rw [hC] at c3
  clear ha hb hc hG
  by_cases h1 : 0 < a
  · have Q1 : decide (p < A) = true := by simp; omega
    rw [if_pos h1, hA]
    clear h1 c2 c3 hA hB hC
    go_enter Tryd.func27, Tryd.ntmps27
    go_wp2_with (first | (go_at_call 22; (with_reducible refine c1.mono ?_); rintro e w1 ⟨rfl, hb⟩))
    go_ret2
    exact ⟨rfl, hb⟩
  · have Q1 : decide (p < A) = false := by simp; omega
    rw [if_neg h1]
    by_cases h2 : 0 < b
    · have Q2 : decide (p < B) = true := by simp; omega
      rw [if_pos h2, hB]
      clear h1 h2 c3 hA hB hC
      go_enter Tryd.func27, Tryd.ntmps27
      go_wp2_with (first | (go_at_call 22; (with_reducible refine c1.mono ?_); rintro e w1 ⟨rfl, hb⟩) | (go_at_call 45; (with_reducible refine (c2 _).mono ?_); rintro e w2 ⟨rfl, rfl⟩))
      go_ret2
      exact ⟨rfl, hb⟩
    · have Q2 : decide (p < B) = false := by simp; omega
      rw [if_neg h2, hC]
      clear h1 h2 hA hB hC
      go_enter Tryd.func27, Tryd.ntmps27
      go_wp2_with (first | (go_at_call 22; (with_reducible refine c1.mono ?_); rintro e w1 ⟨rfl, hb⟩) | (go_at_call 45; (with_reducible refine (c2 _).mono ?_); rintro e w2 ⟨rfl, rfl⟩) | (go_at_call 46; (with_reducible refine (c3 _).mono ?_); rintro e w3 ⟨rfl, hb3⟩))
      go_ret2
      exact ⟨rfl, tr hb hb3⟩
end Go.Proofs.YtibnpbfggbbchaaDoor
