/- The walk of the reference's number. -/
import Derived.Test.YtibnpbfggbbchaaDoorLexF
namespace Go.Proofs.YtibnpbfggbbchaaDoor
open Go.RowKit Go.Lib

theorem digs_step (s : ByteArray) (e : Nat) (h : e < s.size) : digs (s.data.toList.drop e) = if isDb (s[e]'h) then 1 + digs (s.data.toList.drop (e + 1)) else 0 := by
  rw [drop_cons s e h]
  unfold digs
  rw [List.takeWhile_cons]
  cases isDb (s[e]'h) <;> simp
  omega
theorem digs_end (s : ByteArray) (e : Nat) (h : ¬ e < s.size) : digs (s.data.toList.drop e) = 0 := by
  rw [List.drop_eq_nil_of_le (by rw [← Lib.size_eq]; omega)]
  rfl
theorem num_at (L : List UInt8) (p e : Nat) (he : e = p + digs (L.drop p)) :
    p + numL (L.drop p) = if e = p then p else if L[e]? = some 46 ∧ 0 < digs (L.drop (e + 1)) then e + 1 + digs (L.drop (e + 1)) else e := by
  unfold numL
  rw [List.head?_drop, List.getElem?_drop, List.drop_drop, ← he, show p + (digs (L.drop p) + 1) = e + 1 by omega]
  obtain ⟨n, hn⟩ : ∃ n, digs (L.drop p) = n := ⟨_, rfl⟩
  obtain ⟨k, hk⟩ : ∃ k, digs (L.drop (e + 1)) = k := ⟨_, rfl⟩
  rw [hn] at he
  rw [hn, hk]
  subst he
  by_cases h0 : n = 0
  · rw [if_pos h0, if_pos (show p + n = p by omega)]; rfl
  · rw [if_neg h0, if_neg (show ¬ p + n = p by omega)]
    split <;> omega
theorem get_some (s : ByteArray) (e : Nat) (h : e < s.size) : s.data.toList[e]? = some (s[e]'h) := by
  rw [List.getElem?_eq_getElem (by rw [← Lib.size_eq]; exact h)]
  rfl
theorem get_none (s : ByteArray) (e : Nat) (h : ¬ e < s.size) : s.data.toList[e]? = none := by
  rw [List.getElem?_eq_none_iff, ← Lib.size_eq]
  omega

set_option maxHeartbeats 2000000 in
set_option maxRecDepth 100000 in
theorem rnumber_any (s : ByteArray) (p : Nat) (w : World) (hs : s.size ≤ 140737488355328) (hp : p ≤ s.size) :
    Calls Tryd.prog 45 #[.string s, .int .i64 p] w fun e w' => e = .returned (.int .i64 ((p + numL (s.data.toList.drop p) : Nat) : Int)) ∧ w' = w := by
  have hN := fun e (he : e = p + digs (s.data.toList.drop p)) => num_at s.data.toList p e he
  obtain ⟨T, hT⟩ : ∃ T, p + numL (s.data.toList.drop p) = T := ⟨_, rfl⟩
  simp only [hT] at hN
  rw [hT]
  have HN := Lib.hid hN
  have HS := Lib.hid (digs_step s)
  have HE := Lib.hid (digs_end s)
  have cD := digit_any
  clear hT hN
  go_enter Tryd.func45, Tryd.ntmps45
  go_wp2_with fail
  go_loop [5] (fun i => ∃ e : Nat, p ≤ e ∧ e ≤ s.size ∧ i = .int .i64 e ∧ Hid (e + digs (s.data.toList.drop e) = p + digs (s.data.toList.drop p))) (fun i => s.size - (intOf i).toNat)
  case atStart => exact ⟨p, Nat.le_refl _, hp, rfl, rfl⟩
  case round =>
    obtain ⟨e, hpe, hes, rfl, hR⟩ := hrel
    by_cases hlt : e < s.size
    · have cDe := cD (s[e]'hlt) w
      have h1 := HS.out e hlt
      cases hd : isDb (s[e]'hlt) <;> rw [hd] at cDe h1
      · have hee : e = p + digs (s.data.toList.drop p) := by rw [← hR.out, h1]; simp
        have hfin := HN.out e hee
        rw [get_some s e hlt] at hfin
        clear HN hR hee h1 hd
        by_cases q1 : e = p
        · have Q1 : ((e : Int) == (p : Int)) = true := by simp; omega
          rw [if_pos q1] at hfin
          have HF := Lib.hid hfin
          have hep : e ≤ p := by omega
          clear hfin q1 HS HE cD
          go_wp2_with (first | (go_at_call 57; (with_reducible refine cDe.mono ?_); rintro e w5 ⟨rfl, rfl⟩) | (go_at_call 57; (with_reducible refine cDf.mono ?_); rintro e w5 ⟨rfl, rfl⟩))
          go_ret
          exact ⟨ret_i64 (by have := HF.out; omega), rfl⟩
        · have Q1 : ((e : Int) == (p : Int)) = false := by simp; omega
          rw [if_neg q1] at hfin
          by_cases q2 : e + 1 < s.size
          · have Q2 : decide ((e : Int) + 1 ≥ (s.size : Int)) = false := by simp; omega
            by_cases q3 : (s[e]'hlt) = 46
            · have Q3 : (((s[e]'hlt).toNat : Int) != 46) = false := by rw [q3]; rfl
              have h2 := HS.out (e + 1) q2
              have cDf := cD (s[e + 1]'q2) w
              cases hd2 : isDb (s[e + 1]'q2) <;> rw [hd2] at h2 cDf
              · simp only [Bool.false_eq_true, if_false] at h2
                rw [h2, if_neg (by omega)] at hfin
                have HF := Lib.hid hfin
                clear hfin q1 q3 HS HE cD h2 hd2
                go_wp2_with (first | (go_at_call 57; (with_reducible refine cDe.mono ?_); rintro e w5 ⟨rfl, rfl⟩) | (go_at_call 57; (with_reducible refine cDf.mono ?_); rintro e w5 ⟨rfl, rfl⟩))
                go_ret
                exact ⟨ret_i64 (by have := HF.out; omega), rfl⟩
              · simp only [if_true] at h2
                rw [q3, if_pos ⟨rfl, by omega⟩] at hfin
                have HF := Lib.hid hfin
                clear hfin q1 q3 h2 hd2
                have HC := Lib.hid cD
                clear cD
                go_wp2_with (first | (go_at_call 57; (with_reducible refine cDe.mono ?_); rintro e w5 ⟨rfl, rfl⟩) | (go_at_call 57; (with_reducible refine cDf.mono ?_); rintro e w5 ⟨rfl, rfl⟩))
                go_loop [5] (fun i => ∃ f : Nat, e + 1 ≤ f ∧ f ≤ s.size ∧ i = .int .i64 f ∧ Hid (f + digs (s.data.toList.drop f) = T)) (fun i => s.size - (intOf i).toNat)
                case atStart => exact ⟨e + 1, Nat.le_refl _, by omega, rfl, HF.out.symm⟩
                case round =>
                  obtain ⟨f, hpf, hfs, rfl, hR⟩ := hrel
                  by_cases hlf : f < s.size
                  · have cDe := HC.out (s[f]'hlf) w
                    have h1 := HS.out f hlf
                    cases hd : isDb (s[f]'hlf) <;> rw [hd] at cDe h1
                    · have hR2 := hR.out
                      rw [h1] at hR2
                      have HR2 := Lib.hid hR2
                      clear hR2 h1 hd hR
                      go_wp2_with (first | (go_at_call 57; (with_reducible refine cDe.mono ?_); rintro e w5 ⟨rfl, rfl⟩) | (go_at_call 57; (with_reducible refine cDf.mono ?_); rintro e w5 ⟨rfl, rfl⟩))
                      go_ret
                      exact ⟨ret_i64 (by have := HR2.out; simp only [Bool.false_eq_true, if_false] at this; omega), rfl⟩
                    · have hR2 := hR.out
                      rw [h1, if_pos rfl] at hR2
                      have HR2 := Lib.hid hR2
                      clear hR2 h1 hd hR
                      go_wp2_with (first | (go_at_call 57; (with_reducible refine cDe.mono ?_); rintro e w5 ⟨rfl, rfl⟩) | (go_at_call 57; (with_reducible refine cDf.mono ?_); rintro e w5 ⟨rfl, rfl⟩))
                      go_round
                      case rel => exact ⟨f + 1, by omega, by omega, by go_num, by rw [← HR2.out]; show _ = _; omega⟩
                      case measure => simp [intOf]; omega
                  · have hR2 := hR.out
                    rw [HE.out f hlf] at hR2
                    have HR2 := Lib.hid hR2
                    clear hR2 hR
                    go_wp2
                    go_ret
                    exact ⟨ret_i64 (by have := HR2.out; omega), rfl⟩
            · have Q3 : (((s[e]'hlt).toNat : Int) != 46) = true := by
                have : ¬ (s[e]'hlt).toNat = 46 := fun h => q3 (UInt8.toNat_inj.1 h)
                simp; omega
              rw [if_neg (fun h => q3 (Option.some.inj h.1))] at hfin
              have HF := Lib.hid hfin
              clear hfin q1 q3 HS HE cD
              go_wp2_with (first | (go_at_call 57; (with_reducible refine cDe.mono ?_); rintro e w5 ⟨rfl, rfl⟩) | (go_at_call 57; (with_reducible refine cDf.mono ?_); rintro e w5 ⟨rfl, rfl⟩))
              go_ret
              exact ⟨ret_i64 (by have := HF.out; omega), rfl⟩
          · have Q2 : decide ((e : Int) + 1 ≥ (s.size : Int)) = true := by simp; omega
            rw [HE.out (e + 1) q2, if_neg (by omega)] at hfin
            have HF := Lib.hid hfin
            clear hfin q1 HS HE cD
            go_wp2_with (first | (go_at_call 57; (with_reducible refine cDe.mono ?_); rintro e w5 ⟨rfl, rfl⟩) | (go_at_call 57; (with_reducible refine cDf.mono ?_); rintro e w5 ⟨rfl, rfl⟩))
            go_ret
            exact ⟨ret_i64 (by have := HF.out; omega), rfl⟩
      · have hR2 : e + 1 + digs (s.data.toList.drop (e + 1)) = p + digs (s.data.toList.drop p) := by rw [← hR.out, h1, if_pos rfl]; omega
        have HR2 := Lib.hid hR2
        clear HN HS HE hR h1 hd cD hR2
        go_wp2_with (first | (go_at_call 57; (with_reducible refine cDe.mono ?_); rintro e w5 ⟨rfl, rfl⟩))
        go_round
        case rel => exact ⟨e + 1, by omega, by omega, by go_num, HR2⟩
        case measure => simp [intOf]; omega
    · have hee : e = p + digs (s.data.toList.drop p) := by rw [← hR.out, HE.out e hlt]; simp
      have hfin := HN.out e hee
      rw [get_none s e hlt] at hfin
      have hfin2 : T = e := by rw [hfin]; split <;> simp_all
      clear HN HS HE hR hee cD hfin
      have HF := Lib.hid hfin2
      clear hfin2
      have Q2 : decide ((e : Int) + 1 ≥ (s.size : Int)) = true := by simp; omega
      by_cases q1 : e = p
      · have Q1 : ((e : Int) == (p : Int)) = true := by simp; omega
        have hep : e ≤ p := by omega
        clear q1
        go_wp2
        go_ret
        exact ⟨ret_i64 (by have := HF.out; omega), rfl⟩
      · have Q1 : ((e : Int) == (p : Int)) = false := by simp; omega
        clear q1
        go_wp2
        go_ret
        exact ⟨ret_i64 (by have := HF.out; omega), rfl⟩
end Go.Proofs.YtibnpbfggbbchaaDoor
