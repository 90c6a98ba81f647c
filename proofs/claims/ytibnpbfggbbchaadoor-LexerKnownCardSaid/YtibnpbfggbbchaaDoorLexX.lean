/- The walks of the reference's Is and Join. -/
import Derived.Test.YtibnpbfggbbchaaDoorLexW
import Derived.Lib.BufSteps
namespace Go.Proofs.YtibnpbfggbbchaaDoor
open Go.RowKit Go.Lib

theorem okT_false (u : Ta) (h : ¬ (0 < (wordL u.2.1.data.toList).2 ∧ ((wordL u.2.1.data.toList).1 : Int) = u.1 ∧ (wordL u.2.1.data.toList).2 = u.2.1.size ∧ skipL u.2.1.data.toList = 0)) : okT u = false :=
  Bool.eq_false_iff.2 fun h2 => h ((okT_iff u).1 h2)

set_option maxHeartbeats 4000000 in
set_option maxRecDepth 100000 in
theorem ris_any (kd : Int) (S : ByteArray) (at0 : Int) (w : World) (hs : S.size ≤ 140737488355328) (hG : Gl w) :
    Calls Tryd.prog 30 #[.agg #[.int .i64 kd, .string S, .int .i64 at0]] w fun e w' => e = .returned (.bool (okT (kd, S, at0))) ∧ Below w.heap.size w w' := by
  obtain ⟨B, hB⟩ : ∃ B, okT (kd, S, at0) = B := ⟨_, rfl⟩
  have hok := okT_iff (kd, S, at0)
  rw [hB] at hok ⊢
  simp only at hok
  have hwl := wordL_le S.data.toList
  rw [← Lib.size_eq] at hwl
  have hr := rword_eq S.data.toList
  have h0 : Below w.heap.size w (w.alloc (.cells #[.int .i64 kd, .string S, .int .i64 at0] 30)) := (Below.refl _ _).alloc (Nat.le_refl _) _
  have c2 : Calls Tryd.prog 27 #[.string S, .int .i64 0] (w.alloc (.cells #[.int .i64 kd, .string S, .int .i64 at0] 30)) fun e w' => e = .returned (.tuple #[.int .i64 (rwordL S.data.toList).1, .int .i64 (rwordL S.data.toList).2]) ∧ Below w.heap.size w w' ∧ w'.cell? ⟨w.heap.size, 0, none⟩ = some (.int .i64 kd) ∧ w'.cell? ⟨w.heap.size, 1, none⟩ = some (.string S) := by
    have h := rword_any S 0 (w.alloc (.cells #[.int .i64 kd, .string S, .int .i64 at0] 30)) hs (Nat.zero_le _) (hG.below h0)
    rw [List.drop_zero, Nat.zero_add] at h
    refine h.mono ?_
    rintro e w' ⟨rfl, hb'⟩
    have hc := cell_three_new w (.int .i64 kd) (.string S) (.int .i64 at0) 30
    have hlt' : w.heap.size < (w.alloc (.cells #[.int .i64 kd, .string S, .int .i64 at0] 30)).heap.size := by simp
    exact ⟨rfl, tr h0 hb', (hb'.cell (p := ⟨w.heap.size, 0, none⟩) hlt').trans (hc 0 _ rfl), (hb'.cell (p := ⟨w.heap.size, 1, none⟩) hlt').trans (hc 1 _ rfl)⟩
  have c1 : Calls Tryd.prog 26 #[.string S, .int .i64 0] (w.alloc (.cells #[.int .i64 kd, .string S, .int .i64 at0] 30)) fun e w' => e = .returned (.int .i64 (skipL S.data.toList)) ∧ w.alloc (.cells #[.int .i64 kd, .string S, .int .i64 at0] 30) = w' := by
    have h := rskip_any S 0 (w.alloc (.cells #[.int .i64 kd, .string S, .int .i64 at0] 30)) hs (Nat.zero_le _)
    rw [List.drop_zero, Nat.zero_add] at h
    exact h
  obtain ⟨q, hq⟩ : ∃ q, skipL S.data.toList = q := ⟨_, rfl⟩
  obtain ⟨k, hk⟩ : ∃ k, (rwordL S.data.toList).1 = k := ⟨_, rfl⟩
  obtain ⟨n, hn⟩ : ∃ n, (wordL S.data.toList).2 = n := ⟨_, rfl⟩
  rw [hr.1, hk, hn] at c2
  have hkk : 0 < n → (wordL S.data.toList).1 = k := fun h => by rw [← hk, hr.2 (by omega)]
  rw [hn, hq] at hok
  rw [hn] at hwl
  rw [hq] at c1
  clear hr hk hn hq hG hs
  by_cases hz : S.size = 0
  · have hBf : B = false := Bool.eq_false_iff.2 fun h => by have := hok.1 h; omega
    subst hBf
    have Q0 : ((S.size : Int) == 0) = true := by rw [hz]; rfl
    clear hok hkk hwl hz c1 c2 hB
    go_enter Tryd.func30, Tryd.ntmps30
    go_wp2
    go_ret
    exact ⟨rfl, h0⟩
  · have Q0 : ((S.size : Int) == 0) = false := beq_eq_false_iff_ne.2 (by omega)
    by_cases hq : 0 < q
    · have hBf : B = false := Bool.eq_false_iff.2 fun h => by have := hok.1 h; omega
      subst hBf
      clear hok hkk hwl hz c2 hB
      go_enter Tryd.func30, Tryd.ntmps30
      go_wp2_with (first | (go_at_call 26; (with_reducible refine c1.mono ?_); rintro e w1 ⟨rfl, rfl⟩))
      go_ret
      exact ⟨rfl, h0⟩
    · obtain rfl : q = 0 := by omega
      by_cases h1 : (k : Int) = kd
      · by_cases h2 : n = S.size
        · have hBf : B = true := hok.2 ⟨by omega, by rw [hkk (by omega)]; exact h1, h2, rfl⟩
          subst hBf
          subst h2
          obtain rfl := h1
          clear hok hkk hwl hq hB
          go_enter Tryd.func30, Tryd.ntmps30
          go_wp2_with (first | (go_at_call 26; (with_reducible refine c1.mono ?_); rintro e w1 ⟨rfl, rfl⟩) | (go_at_call 27; (with_reducible refine c2.mono ?_); rintro e w2 ⟨rfl, hb2, d0, d1⟩))
          go_ret
          exact ⟨rfl, hb2⟩
        · have hBf : B = false := Bool.eq_false_iff.2 fun h => h2 (hok.1 h).2.2.1
          subst hBf
          obtain rfl := h1
          have Q2 : ((n : Int) == (S.size : Int)) = false := by simp; omega
          clear hok hkk hwl hq hB
          go_enter Tryd.func30, Tryd.ntmps30
          go_wp2_with (first | (go_at_call 26; (with_reducible refine c1.mono ?_); rintro e w1 ⟨rfl, rfl⟩) | (go_at_call 27; (with_reducible refine c2.mono ?_); rintro e w2 ⟨rfl, hb2, d0, d1⟩))
          go_ret
          exact ⟨rfl, hb2⟩
      · have hBf : B = false := Bool.eq_false_iff.2 fun h => by
          have h3 := hok.1 h
          rw [hkk h3.1] at h3
          exact h1 h3.2.1
        subst hBf
        have Q1 : ((k : Int) == kd) = false := by simp; exact h1
        clear hok hkk hwl hq hB
        go_enter Tryd.func30, Tryd.ntmps30
        go_wp2_with (first | (go_at_call 26; (with_reducible refine c1.mono ?_); rintro e w1 ⟨rfl, rfl⟩) | (go_at_call 27; (with_reducible refine c2.mono ?_); rintro e w2 ⟨rfl, hb2, d0, d1⟩))
        go_ret
        exact ⟨rfl, hb2⟩
end Go.Proofs.YtibnpbfggbbchaaDoor
