/- The walk of the statements' blank; where the tokens of a text stand. -/
import Derived.Test.YtibnpbfggbbchaaDoorLexN
namespace Go.Proofs.YtibnpbfggbbchaaDoor
open Go.RowKit Go.Lib

theorem tokens_all (s : ByteArray) (w : World) (hG : Gl w) : Calls Tryd.prog 13 #[.string s] w (TokEnd (tokensL s.data.toList) w) := by
  by_cases h : s.size ≤ 65536
  · exact tokens_any s w h hG
  · exact tokens_long s w (by omega)

set_option maxHeartbeats 2000000 in
set_option maxRecDepth 100000 in
theorem blank_any (s : ByteArray) (w : World) (hs : s.size ≤ 140737488355328) :
    Calls Tryd.prog 14 #[.string s] w fun e w' => e = .returned (.bool (decide (skipL s.data.toList = s.size))) ∧ w' = w := by
  obtain ⟨T, hT⟩ : ∃ T, skipL s.data.toList = T := ⟨_, rfl⟩
  rw [hT]
  have hTl : T ≤ s.size := by rw [← hT, Lib.size_eq]; exact skipB_le _ _
  have HT := Lib.hid hT
  have HS := Lib.hid (skip_false s)
  have HTr := Lib.hid (skip_true s)
  have HE := Lib.hid (skip_end s)
  clear hT
  go_enter Tryd.func14, Tryd.ntmps14
  go_wp2_with fail
  go_loop [3] (fun i => ∃ f : Nat, f ≤ s.size ∧ i = .int .i64 f ∧ Hid (f + skipB false (s.data.toList.drop f) = T)) (fun i => s.size - (intOf i).toNat)
  case atStart => exact ⟨0, Nat.zero_le _, rfl, by have := HT.out; show _ = _; simpa [skipL] using this⟩
  case round =>
    obtain ⟨f, hf, rfl, hR⟩ := hrel
    by_cases hlt : f < s.size
    · have h1 := HS.out f hlt
      rw [isBl_nat] at h1
      by_cases hb : (s[f]'hlt).toNat = 32 ∨ (s[f]'hlt).toNat = 9 ∨ (s[f]'hlt).toNat = 10 ∨ (s[f]'hlt).toNat = 13
      · rw [if_pos (by simpa [or_assoc] using hb)] at h1
        have hR2 := hR.out
        rw [h1] at hR2
        have HR := Lib.hid hR2
        clear h1 hR2 hR HS HTr HE HT
        by_cases q1 : (s[f]'hlt).toNat = 32
        · have Q1 : (((s[f]'hlt).toNat : Int) == 32) = true := by simp; omega
          clear hb q1
          go_wp2
          go_round
          case rel => exact ⟨f + 1, by omega, by go_num, by rw [← HR.out]; show _ = _; omega⟩
          case measure => simp [intOf]; omega
        · have Q1 : (((s[f]'hlt).toNat : Int) == 32) = false := by simp; omega
          by_cases q2 : (s[f]'hlt).toNat = 9
          · have Q2 : (((s[f]'hlt).toNat : Int) == 9) = true := by simp; omega
            clear hb q1 q2
            go_wp2
            go_round
            case rel => exact ⟨f + 1, by omega, by go_num, by rw [← HR.out]; show _ = _; omega⟩
            case measure => simp [intOf]; omega
          · have Q2 : (((s[f]'hlt).toNat : Int) == 9) = false := by simp; omega
            by_cases q3 : (s[f]'hlt).toNat = 10
            · have Q3 : (((s[f]'hlt).toNat : Int) == 10) = true := by simp; omega
              clear hb q1 q2 q3
              go_wp2
              go_round
              case rel => exact ⟨f + 1, by omega, by go_num, by rw [← HR.out]; show _ = _; omega⟩
              case measure => simp [intOf]; omega
            · have Q3 : (((s[f]'hlt).toNat : Int) == 10) = false := by simp; omega
              have Q4 : (((s[f]'hlt).toNat : Int) == 13) = true := by simp; omega
              clear hb q1 q2 q3
              go_wp2
              go_round
              case rel => exact ⟨f + 1, by omega, by go_num, by rw [← HR.out]; show _ = _; omega⟩
              case measure => simp [intOf]; omega
      · rw [if_neg (by simpa [or_assoc] using hb)] at h1
        have Q1 : (((s[f]'hlt).toNat : Int) == 32) = false := by simp; omega
        have Q2 : (((s[f]'hlt).toNat : Int) == 9) = false := by simp; omega
        have Q3 : (((s[f]'hlt).toNat : Int) == 10) = false := by simp; omega
        have Q4 : (((s[f]'hlt).toNat : Int) == 13) = false := by simp; omega
        have hn10 : ¬ (s[f]'hlt).toNat = 10 := fun h => hb (Or.inr (Or.inr (Or.inl h)))
        clear hb
        by_cases q6 : (s[f]'hlt).toNat = 47
        · have Q6 : (((s[f]'hlt).toNat : Int) == 47) = true := by simp; omega
          by_cases q5 : f + 1 < s.size
          · have Q5 : decide ((f : Int) + 1 ≥ (s.size : Int)) = false := by simp; omega
            rw [get_some s (f + 1) q5] at h1
            by_cases q7 : (s[f + 1]'q5).toNat = 47
            · have Q7 : (((s[f + 1]'q5).toNat : Int) != 47) = false := by simp; omega
              rw [if_pos ⟨q6, by rw [UInt8.toNat_inj.1 (show (s[f + 1]'q5).toNat = (47 : UInt8).toNat from q7)]⟩] at h1
              have hR2 := hR.out
              have h2 := HTr.out f hlt
              rw [if_neg hn10] at h2
              rw [h1, h2] at hR2
              have HR := Lib.hid hR2
              clear h1 h2 hR2 hR HS HT q6 q7 hn10
              go_wp2_with fail
              go_loop [3] (fun i => ∃ g : Nat, f ≤ g ∧ g < s.size ∧ i = .int .i64 g ∧ Hid (g + (1 + skipB true (s.data.toList.drop (g + 1))) = T)) (fun i => s.size - (intOf i).toNat)
              case atStart => exact ⟨f, Nat.le_refl _, by omega, rfl, HR⟩
              case round =>
                obtain ⟨g, hfg, hg, rfl, hR⟩ := hrel
                by_cases hlg : g + 1 < s.size
                · have P0 : decide ((g : Int) + 1 < (s.size : Int)) = true := by simp; omega
                  have h1 := HTr.out (g + 1) hlg
                  have hR2 := hR.out
                  by_cases q : (s[g + 1]'hlg).toNat = 10
                  · rw [if_pos q] at h1
                    rw [h1] at hR2
                    have HR2 := Lib.hid hR2
                    have P1 : (((s[g + 1]'hlg).toNat : Int) != 10) = false := by simp; omega
                    clear h1 hR2 hR q HTr HE
                    go_wp2
                    go_round
                    case rel => exact ⟨g + 1, by omega, by go_num, by have := HR2.out; show _ = _; omega⟩
                    case measure => simp [intOf]; omega
                  · rw [if_neg q] at h1
                    rw [h1] at hR2
                    have HR2 := Lib.hid hR2
                    have P1 : (((s[g + 1]'hlg).toNat : Int) != 10) = true := by simp; omega
                    clear h1 hR2 hR q HTr HE
                    go_wp2
                    go_round
                    case rel => exact ⟨g + 1, by omega, by omega, by go_num, by have := HR2.out; show _ = _; omega⟩
                    case measure => simp [intOf]; omega
                · have P0 : decide ((g : Int) + 1 < (s.size : Int)) = false := by simp; omega
                  have hR2 := hR.out
                  rw [HE.out true (g + 1) hlg] at hR2
                  have hx := HE.out false (g + 1) hlg
                  have HR2 := Lib.hid (show g + 1 + skipB false (s.data.toList.drop (g + 1)) = T by rw [hx]; omega)
                  clear hR2 hR hx HTr HE
                  go_wp2
                  go_round
                  case rel => exact ⟨g + 1, by omega, by go_num, HR2⟩
                  case measure => simp [intOf]; omega
            · have Q7 : (((s[f + 1]'q5).toNat : Int) != 47) = true := by simp; omega
              rw [if_neg (fun h => q7 (by rw [Option.some.inj h.2]; rfl))] at h1
              have hR2 := hR.out
              rw [h1] at hR2
              have HR := Lib.hid hR2
              clear h1 hR2 hR HS HTr HE HT q6 q7 hn10
              go_wp2
              go_ret
              exact ⟨ret_bool (by have := HR.out; exact (decide_eq_false (by omega)).symm), rfl⟩
          · have Q5 : decide ((f : Int) + 1 ≥ (s.size : Int)) = true := by simp; omega
            rw [get_none s (f + 1) q5, if_neg (fun h => by cases h.2)] at h1
            have hR2 := hR.out
            rw [h1] at hR2
            have HR := Lib.hid hR2
            clear h1 hR2 hR HS HTr HE HT q6 hn10
            go_wp2
            go_ret
            exact ⟨ret_bool (by have := HR.out; exact (decide_eq_false (by omega)).symm), rfl⟩
        · have Q6 : (((s[f]'hlt).toNat : Int) == 47) = false := by simp; omega
          rw [if_neg (fun h => q6 h.1)] at h1
          have hR2 := hR.out
          rw [h1] at hR2
          have HR := Lib.hid hR2
          clear h1 hR2 hR HS HTr HE HT q6 hn10
          go_wp2
          go_ret
          exact ⟨ret_bool (by have := HR.out; exact (decide_eq_false (by omega)).symm), rfl⟩
    · have hR2 := hR.out
      rw [HE.out false f hlt] at hR2
      have HR := Lib.hid hR2
      clear hR2 hR HS HTr HE HT
      go_wp2
      go_ret
      exact ⟨ret_bool (by have := HR.out; exact (decide_eq_true (by omega)).symm), rfl⟩

/-! ### Where tokens stand -/
theorem skipB_take : ∀ (b : Bool) (l : List UInt8), skipB b (l.take (skipB b l)) = skipB b l
  | b, [] => by cases b <;> rfl
  | true, c :: r => by
    have h1 := skipB_take true r
    have h2 := skipB_take false r
    by_cases h : c = 10
    · rw [skipB, if_pos h, Nat.add_comm, List.take_succ_cons, skipB, if_pos h, h2, Nat.add_comm]
    · rw [skipB, if_neg h, Nat.add_comm, List.take_succ_cons, skipB, if_neg h, h1, Nat.add_comm]
  | false, c :: r => by
    have h1 := skipB_take true r
    have h2 := skipB_take false r
    have e0 : skipB false (c :: r) = if isBl c then 1 + skipB false r else if c = 47 ∧ r.head? = some 47 then 1 + skipB true r else 0 := by rw [skipB]
    have e1 : ∀ q, skipB false (c :: q) = if isBl c then 1 + skipB false q else if c = 47 ∧ q.head? = some 47 then 1 + skipB true q else 0 := fun q => by rw [skipB]
    rw [e0]
    by_cases hb : isBl c = true
    · rw [if_pos hb, Nat.add_comm, List.take_succ_cons, e1, if_pos hb, h2, Nat.add_comm]
    · rw [if_neg hb]
      by_cases h : c = 47 ∧ r.head? = some 47
      · rw [if_pos h, Nat.add_comm, List.take_succ_cons, e1, if_neg hb]
        have hp : 0 < skipB true r := by
          cases r with
          | nil => simp at h
          | cons d r => unfold skipB; split <;> omega
        have hh : (r.take (skipB true r)).head? = r.head? := by
          cases r with
          | nil => simp
          | cons d r => obtain ⟨m, hm⟩ : ∃ m, skipB true (d :: r) = m + 1 := ⟨skipB true (d :: r) - 1, by omega⟩; rw [hm]; rfl
        rw [hh, if_pos h, h1, Nat.add_comm]
      · rw [if_neg h]
        rfl

/-- From a place on the tokens stand one behind the other, with blanks and comments between. -/
def PlOk (s : List UInt8) : Nat → List Tk → Prop
  | e, [] => skipL (s.drop e) = (s.drop e).length
  | e, t :: ts => e ≤ t.2.2 ∧ skipL ((s.drop e).take (t.2.2 - e)) = t.2.2 - e ∧ t.2.1 ≠ [] ∧ t.2.2 + t.2.1.length ≤ s.length ∧ (s.drop t.2.2).take t.2.1.length = t.2.1 ∧ PlOk s (t.2.2 + t.2.1.length) ts

theorem toksL_places (s : List UInt8) : ∀ (f n e : Nat) (ts : List Tk), (s.drop e).length ≤ f → e ≤ s.length →
    toksL f n (e + skipL (s.drop e)) (s.drop (e + skipL (s.drop e))) = .ok ts → PlOk s e ts
  | 0, n, e, ts, hf, he, h => by
    simp only [toksL, Except.ok.injEq] at h
    subst h
    have : s.drop e = [] := List.eq_nil_of_length_eq_zero (by omega)
    unfold PlOk
    rw [this]
    rfl
  | f + 1, n, e, ts, hf, he, h => by
    have hsk : skipL (s.drop e) ≤ (s.drop e).length := skipB_le _ _
    have htk : skipL ((s.drop e).take (skipL (s.drop e))) = skipL (s.drop e) := skipB_take false _
    obtain ⟨q, hq⟩ : ∃ q, skipL (s.drop e) = q := ⟨_, rfl⟩
    rw [hq] at h hsk htk
    rw [List.length_drop] at hsk hf
    by_cases hl : s.drop (e + q) = []
    · rw [toksL, if_pos hl] at h
      cases h
      unfold PlOk
      rw [hq, List.length_drop]
      have := congrArg List.length hl
      simp at this
      omega
    · rw [toksL_step _ _ _ _ hl] at h
      have hw := wordL_le (s.drop (e + q))
      rw [List.length_drop] at hw
      obtain ⟨m, hm⟩ : ∃ m, (wordL (s.drop (e + q))).2 = m := ⟨_, rfl⟩
      obtain ⟨k, hk⟩ : ∃ k, (wordL (s.drop (e + q))).1 = k := ⟨_, rfl⟩
      rw [hm, hk] at h
      rw [hm] at hw
      by_cases h0 : m = 0
      · rw [if_pos h0] at h; cases h
      · rw [if_neg h0] at h
        by_cases h1 : n = 4096
        · rw [if_pos h1] at h; cases h
        · rw [if_neg h1, List.drop_drop] at h
          have hdd : ∀ x, (s.drop (e + q)).drop x = s.drop (e + q + x) := fun x => by rw [List.drop_drop]
          rw [hdd] at h
          obtain ⟨X, hX⟩ : ∃ X, toksL f (n + 1) (e + q + m + skipL (s.drop (e + q + m))) (s.drop (e + q + (m + skipL (s.drop (e + q + m))))) = X := ⟨_, rfl⟩
          rw [hX] at h
          cases X with
          | error x => cases h
          | ok us =>
            cases h
            have hlen : ((s.drop (e + q)).take m).length = m := by rw [List.length_take, List.length_drop]; omega
            have ih := toksL_places s f (n + 1) (e + q + m) us (by rw [List.length_drop]; omega) (by omega) (by rw [← hX]; congr 2; omega)
            unfold PlOk
            refine ⟨by simp only; omega, ?_, ?_, ?_, ?_, ?_⟩
            · simp only
              rw [show e + q - e = q by omega]
              exact htk
            · simp only
              intro h2
              rw [h2] at hlen
              simp at hlen
              omega
            · simp only
              rw [hlen]
              omega
            · simp only
              rw [hlen]
            · simp only
              rw [hlen]
              exact ih
theorem tokensL_places (s : List UInt8) (ts : List Tk) (h : tokensL s = .ok ts) : PlOk s 0 ts := by
  unfold tokensL at h
  split at h
  · cases h
  · have := toksL_places s s.length 0 0 ts (by simp) (Nat.zero_le _) (by simpa using h)
    exact this
theorem toksL_len : ∀ (f n p : Nat) (l : List UInt8) (ts : List Tk), n ≤ 4096 → toksL f n p l = .ok ts → n + ts.length ≤ 4096
  | 0, n, p, l, ts, hn, h => by
    simp only [toksL, Except.ok.injEq] at h
    subst h
    simpa using hn
  | f + 1, n, p, l, ts, hn, h => by
    by_cases hl : l = []
    · rw [toksL, if_pos hl] at h
      cases h
      simpa using hn
    · rw [toksL_step _ _ _ _ hl] at h
      by_cases h0 : (wordL l).2 = 0
      · rw [if_pos h0] at h; cases h
      · rw [if_neg h0] at h
        by_cases h1 : n = 4096
        · rw [if_pos h1] at h; cases h
        · rw [if_neg h1] at h
          obtain ⟨X, hX⟩ : ∃ X, toksL f (n + 1) (p + (wordL l).2 + skipL (l.drop (wordL l).2)) (l.drop ((wordL l).2 + skipL (l.drop (wordL l).2))) = X := ⟨_, rfl⟩
          rw [hX] at h
          cases X with
          | error x => cases h
          | ok us =>
            cases h
            have := toksL_len f (n + 1) _ _ us (by omega) hX
            simp only [List.length_cons]
            omega
theorem tokensL_len (s : List UInt8) (ts : List Tk) (h : tokensL s = .ok ts) : ts.length ≤ 4096 := by
  unfold tokensL at h
  split at h
  · cases h
  · have := toksL_len _ _ _ _ _ (Nat.zero_le _) h
    omega
end Go.Proofs.YtibnpbfggbbchaaDoor
