/- The walks of the reference's skip. -/
import Derived.Test.YtibnpbfggbbchaaDoorLexH
namespace Go.Proofs.YtibnpbfggbbchaaDoor
open Go.RowKit Go.Lib

theorem isBl_nat (c : UInt8) : isBl c = (decide (c.toNat = 32) || decide (c.toNat = 9) || decide (c.toNat = 10) || decide (c.toNat = 13)) := by
  unfold isBl
  rw [Bool.eq_iff_iff]
  simp only [Bool.or_eq_true, beq_iff_eq, decide_eq_true_eq]
  constructor
  · rintro (((rfl | rfl) | rfl) | rfl) <;> simp
  · rintro (((h | h) | h) | h)
    · exact Or.inl (Or.inl (Or.inl (UInt8.toNat_inj.1 h)))
    · exact Or.inl (Or.inl (Or.inr (UInt8.toNat_inj.1 h)))
    · exact Or.inl (Or.inr (UInt8.toNat_inj.1 h))
    · exact Or.inr (UInt8.toNat_inj.1 h)
theorem skip_true (s : ByteArray) (f : Nat) (h : f < s.size) : skipB true (s.data.toList.drop f) = if (s[f]'h).toNat = 10 then skipB false (s.data.toList.drop f) else 1 + skipB true (s.data.toList.drop (f + 1)) := by
  rw [drop_cons s f h]
  by_cases h1 : (s[f]'h) = 10
  · have hb : isBl 10 = true := rfl
    rw [h1, skipB, if_pos rfl, if_pos (show (10 : UInt8).toNat = 10 from rfl), skipB, if_pos hb]
  · rw [skipB, if_neg h1, if_neg (show ¬ (s[f]'h).toNat = 10 from fun h2 => h1 (UInt8.toNat_inj.1 h2))]
theorem skip_end (s : ByteArray) (b : Bool) (f : Nat) (h : ¬ f < s.size) : skipB b (s.data.toList.drop f) = 0 := by
  rw [List.drop_eq_nil_of_le (by rw [← Lib.size_eq]; omega)]
  cases b <;> rfl
theorem skip_false (s : ByteArray) (f : Nat) (h : f < s.size) : skipB false (s.data.toList.drop f) = if isBl (s[f]'h) then 1 + skipB false (s.data.toList.drop (f + 1)) else if (s[f]'h).toNat = 47 ∧ s.data.toList[f + 1]? = some 47 then skipB true (s.data.toList.drop f) else 0 := by
  rw [drop_cons s f h, skip_step, pre2, List.head?_drop]
  by_cases hb : isBl (s[f]'h) = true
  · rw [if_pos hb, if_pos hb]
  · rw [if_neg hb, if_neg hb]
    have e : ((s[f]'h) = 47 ∧ s.data.toList[f + 1]? = some 47) ↔ ((s[f]'h).toNat = 47 ∧ s.data.toList[f + 1]? = some 47) := by
      constructor
      · rintro ⟨h1, h2⟩; exact ⟨by rw [h1]; rfl, h2⟩
      · rintro ⟨h1, h2⟩; exact ⟨UInt8.toNat_inj.1 h1, h2⟩
    by_cases h1 : (s[f]'h) = 47 ∧ s.data.toList[f + 1]? = some 47
    · rw [if_pos (by simpa using h1), if_pos (e.1 h1)]
    · rw [if_neg (by simpa using h1), if_neg (fun h2 => h1 (e.2 h2))]

set_option maxHeartbeats 2000000 in
set_option maxRecDepth 100000 in
theorem rskip_any (s : ByteArray) (p : Nat) (w : World) (hs : s.size ≤ 140737488355328) (hp : p ≤ s.size) :
    Calls Tryd.prog 26 #[.string s, .int .i64 p] w fun e w' => e = .returned (.int .i64 ((p + skipL (s.data.toList.drop p) : Nat) : Int)) ∧ w = w' := by
  obtain ⟨T, hT⟩ : ∃ T, p + skipL (s.data.toList.drop p) = T := ⟨_, rfl⟩
  rw [hT]
  have HT := Lib.hid hT
  have HS := Lib.hid (skip_false s)
  have HTr := Lib.hid (skip_true s)
  have HE := Lib.hid (skip_end s)
  clear hT
  go_enter Tryd.func26, Tryd.ntmps26
  go_wp2_with fail
  go_loop [1] (fun i => ∃ f : Nat, f ≤ s.size ∧ i = .int .i64 f ∧ Hid (f + skipB false (s.data.toList.drop f) = T)) (fun i => s.size - (intOf i).toNat)
  case atStart => exact ⟨p, hp, rfl, HT⟩
  case round =>
    obtain ⟨f, hf, rfl, hR⟩ := hrel
    by_cases hlt : f < s.size
    · have h1 := HS.out f hlt
      rw [isBl_nat] at h1
      by_cases hb : (s[f]'hlt).toNat = 32 ∨ (s[f]'hlt).toNat = 9 ∨ (s[f]'hlt).toNat = 10 ∨ (s[f]'hlt).toNat = 13
      · rw [if_pos (by simpa [or_assoc] using hb)] at h1
        have hR2 := hR.out
        rw [h1] at hR2
        have HR := Lib.hid hR2
        clear h1 hR2 hR HS HTr HE HT
        by_cases q1 : (s[f]'hlt).toNat = 32
        · have Q1 : (((s[f]'hlt).toNat : Int) == 32) = true := by simp; omega
          clear hb q1
          go_wp2
          go_round
          case rel => exact ⟨f + 1, by omega, by go_num, by rw [← HR.out]; show _ = _; omega⟩
          case measure => simp [intOf]; omega
        · have Q1 : (((s[f]'hlt).toNat : Int) == 32) = false := by simp; omega
          by_cases q2 : (s[f]'hlt).toNat = 9
          · have Q2 : (((s[f]'hlt).toNat : Int) == 9) = true := by simp; omega
            clear hb q1 q2
            go_wp2
            go_round
            case rel => exact ⟨f + 1, by omega, by go_num, by rw [← HR.out]; show _ = _; omega⟩
            case measure => simp [intOf]; omega
          · have Q2 : (((s[f]'hlt).toNat : Int) == 9) = false := by simp; omega
            by_cases q3 : (s[f]'hlt).toNat = 10
            · have Q3 : (((s[f]'hlt).toNat : Int) == 10) = true := by simp; omega
              clear hb q1 q2 q3
              go_wp2
              go_round
              case rel => exact ⟨f + 1, by omega, by go_num, by rw [← HR.out]; show _ = _; omega⟩
              case measure => simp [intOf]; omega
            · have Q3 : (((s[f]'hlt).toNat : Int) == 10) = false := by simp; omega
              have Q4 : (((s[f]'hlt).toNat : Int) == 13) = true := by simp; omega
              clear hb q1 q2 q3
              go_wp2
              go_round
              case rel => exact ⟨f + 1, by omega, by go_num, by rw [← HR.out]; show _ = _; omega⟩
              case measure => simp [intOf]; omega
      · rw [if_neg (by simpa [or_assoc] using hb)] at h1
        have Q1 : (((s[f]'hlt).toNat : Int) == 32) = false := by simp; omega
        have Q2 : (((s[f]'hlt).toNat : Int) == 9) = false := by simp; omega
        have Q3 : (((s[f]'hlt).toNat : Int) == 10) = false := by simp; omega
        have Q4 : (((s[f]'hlt).toNat : Int) == 13) = false := by simp; omega
        have hn10 : ¬ (s[f]'hlt).toNat = 10 := fun h => hb (Or.inr (Or.inr (Or.inl h)))
        clear hb
        by_cases q5 : f + 1 < s.size
        · have Q5 : decide ((f : Int) + 1 < (s.size : Int)) = true := by simp; omega
          rw [get_some s (f + 1) q5] at h1
          by_cases q6 : (s[f]'hlt).toNat = 47
          · have Q6 : (((s[f]'hlt).toNat : Int) == 47) = true := by simp; omega
            by_cases q7 : (s[f + 1]'q5).toNat = 47
            · have Q7 : (((s[f + 1]'q5).toNat : Int) == 47) = true := by simp; omega
              rw [if_pos ⟨q6, by rw [UInt8.toNat_inj.1 (show (s[f + 1]'q5).toNat = (47 : UInt8).toNat from q7)]⟩] at h1
              have hR2 := hR.out
              rw [h1] at hR2
              have HR := Lib.hid hR2
              have Hn10 := Lib.hid hn10
              clear h1 hR2 hR HS HT q6 q7 hn10
              go_wp2_with fail
              go_loop [1] (fun i => ∃ g : Nat, f ≤ g ∧ g ≤ s.size ∧ i = .int .i64 g ∧ Hid (g + skipB true (s.data.toList.drop g) = T)) (fun i => s.size - (intOf i).toNat)
              case atStart => exact ⟨f, Nat.le_refl _, by omega, rfl, HR⟩
              case round =>
                obtain ⟨g, hfg, hg, rfl, hR⟩ := hrel
                by_cases hlg : g < s.size
                · have h1 := HTr.out g hlg
                  have hR2 := hR.out
                  by_cases q : (s[g]'hlg).toNat = 10
                  · rw [if_pos q] at h1
                    rw [h1] at hR2
                    have HR2 := Lib.hid hR2
                    have hne : f ≠ g := by rintro rfl; exact Hn10.out q
                    have P1 : (((s[g]'hlg).toNat : Int) != 10) = false := by simp; omega
                    clear h1 hR2 hR q HTr HE
                    go_wp2
                    go_round
                    case rel => exact ⟨g, by omega, by go_num, HR2⟩
                    case measure => simp [intOf]; omega
                  · rw [if_neg q] at h1
                    rw [h1] at hR2
                    have HR2 := Lib.hid hR2
                    have P1 : (((s[g]'hlg).toNat : Int) != 10) = true := by simp; omega
                    clear h1 hR2 hR q HTr HE
                    go_wp2
                    go_round
                    case rel => exact ⟨g + 1, by omega, by omega, by go_num, by rw [← HR2.out]; show _ = _; omega⟩
                    case measure => simp [intOf]; omega
                · have hR2 := hR.out
                  rw [HE.out true g hlg] at hR2
                  have hx := HE.out false g hlg
                  have HR2 := Lib.hid (show g + skipB false (s.data.toList.drop g) = T by rw [hx]; exact hR2)
                  have hgf : f < g := by omega
                  clear hR2 hR hx HTr HE
                  go_wp2
                  go_round
                  case rel => exact ⟨g, by omega, by go_num, HR2⟩
                  case measure => simp [intOf]; omega
            · have Q7 : (((s[f + 1]'q5).toNat : Int) == 47) = false := by simp; omega
              rw [if_neg (fun h => q7 (by rw [Option.some.inj h.2]; rfl))] at h1
              have hR2 := hR.out
              rw [h1] at hR2
              have HR := Lib.hid hR2
              clear h1 hR2 hR HS HTr HE HT q6 q7 hn10
              go_wp2
              go_ret
              exact ⟨ret_i64 (by have := HR.out; omega), rfl⟩
          · have Q6 : (((s[f]'hlt).toNat : Int) == 47) = false := by simp; omega
            rw [if_neg (fun h => q6 h.1)] at h1
            have hR2 := hR.out
            rw [h1] at hR2
            have HR := Lib.hid hR2
            clear h1 hR2 hR HS HTr HE HT q6 hn10
            go_wp2
            go_ret
            exact ⟨ret_i64 (by have := HR.out; omega), rfl⟩
        · have Q5 : decide ((f : Int) + 1 < (s.size : Int)) = false := by simp; omega
          rw [get_none s (f + 1) q5, if_neg (fun h => by cases h.2)] at h1
          have hR2 := hR.out
          rw [h1] at hR2
          have HR := Lib.hid hR2
          clear h1 hR2 hR HS HTr HE HT hn10
          go_wp2
          go_ret
          exact ⟨ret_i64 (by have := HR.out; omega), rfl⟩
    · have hR2 := hR.out
      rw [HE.out false f hlt] at hR2
      have HR := Lib.hid hR2
      clear hR2 hR HS HTr HE HT
      go_wp2
      go_ret
      exact ⟨ret_i64 (by have := HR.out; omega), rfl⟩
end Go.Proofs.YtibnpbfggbbchaaDoor
