/- The walks of lexer.word, lexer.skip, lexer.Name. -/
import Derived.Test.YtibnpbfggbbchaaDoorLexB
import Derived.Deep.WholeRow
import Derived.Great.BuildSlice
namespace Go.Proofs.YtibnpbfggbbchaaDoor
open Go.RowKit Go.Lib

theorem ret_bool {a b : Bool} (h : a = b) : Ending.returned (.bool a) = .returned (.bool b) := by rw [h]

set_option maxHeartbeats 1000000 in
theorem w2_any (i x : Nat) (w : World) : Calls Tryd.prog 35 #[.int .i64 i, .int .i32 x] w fun e w' => e = .returned (.bool (isDg i x)) ∧ Below w.heap.size w w' := by
  unfold isDg
  have hb := Below.refl w.heap.size w
  by_cases h1 : 48 ≤ x
  · by_cases h2 : x ≤ 57
    · have a1 : decide ((x : Int) ≥ 48) = true := by simp; omega
      have a2 : decide ((x : Int) ≤ 57) = true := by simp; omega
      go_enter Tryd.func35, Tryd.ntmps35
      go_wp2
      go_ret
      exact ⟨ret_bool (by simp [h1, h2]), hb⟩
    · have a1 : decide ((x : Int) ≥ 48) = true := by simp; omega
      have a2 : decide ((x : Int) ≤ 57) = false := by simp; omega
      go_enter Tryd.func35, Tryd.ntmps35
      go_wp2
      go_ret
      exact ⟨ret_bool (by simp [h1, h2]), hb⟩
  · have a1 : decide ((x : Int) ≥ 48) = false := by simp; omega
    go_enter Tryd.func35, Tryd.ntmps35
    go_wp2
    go_ret
    exact ⟨ret_bool (by simp [h1]), hb⟩

set_option maxHeartbeats 1000000 in
theorem w1_any (i x : Nat) (hx : x ≤ 1114111) (w : World) (hG : Gl w) : Calls Tryd.prog 32 #[.int .i64 i, .int .i32 x] w fun e w' => e = .returned (.bool (isNm i x)) ∧ Below w.heap.size w w' := by
  have cL := Tryd.unicode_IsLetter_all (x : Int) w (by omega) (by omega) hG.1 hG.2.1
  have cD := fun (w' : World) (hb : Below w.heap.size w w') => Tryd.unicode_IsDigit_all (x : Int) w' (by omega) (by omega) (hG.below hb).2.2.1
  clear hG
  by_cases h1 : x = 95
  · have H1 : ((x : Int) == 95) = true := by simp; omega
    have hn : isNm i x = true := by simp [isNm, h1]
    clear h1 cL cD
    go_enter Tryd.func32, Tryd.ntmps32
    go_wp2
    go_ret
    exact ⟨ret_bool (by rw [hn]), Below.refl _ _⟩
  · have H1 : ((x : Int) == 95) = false := by simp; omega
    have hn : isNm i x = (Lib.isLetterU x || (decide (0 < i) && Lib.isDigitU x)) := by
      have hx : (x == 95) = false := by simpa using h1
      simp [isNm, hx]
    rw [hn]
    clear h1 hn
    cases hl : Lib.isLetterU x <;> rw [hl] at cL
    · by_cases h0 : 0 < i
      · have H0 : decide ((i : Int) > 0) = true := by simp; omega
        obtain ⟨d, hd⟩ : ∃ d, Lib.isDigitU x = d := ⟨_, rfl⟩
        rw [hd] at cD ⊢
        clear hl hd
        go_enter Tryd.func32, Tryd.ntmps32
        go_wp2_with (first | (go_at_call 33; refine cL.mono ?_; rintro e w' ⟨rfl, hb⟩) | (go_at_call 34; refine (cD _ hb).mono ?_; rintro e w2 ⟨rfl, hb2⟩))
        all_goals go_ret
        all_goals exact ⟨ret_bool (by simp [h0]), hb.trans (hb2.mono hb.size)⟩
      · have H0 : decide ((i : Int) > 0) = false := by simp; omega
        clear hl cD
        go_enter Tryd.func32, Tryd.ntmps32
        go_wp2_with (first | (go_at_call 33; refine cL.mono ?_; rintro e w' ⟨rfl, hb⟩))
        go_ret
        exact ⟨ret_bool (by simp [h0]), hb⟩
    · clear hl cD
      go_enter Tryd.func32, Tryd.ntmps32
      go_wp2_with (first | (go_at_call 33; refine cL.mono ?_; rintro e w' ⟨rfl, hb⟩))
      go_ret
      exact ⟨ret_bool (by simp), hb⟩

end Go.Proofs.YtibnpbfggbbchaaDoor
