/- The walk of the reference's sign. -/
import Derived.Test.YtibnpbfggbbchaaDoorLexG
namespace Go.Proofs.YtibnpbfggbbchaaDoor
open Go.RowKit Go.Lib

theorem bdn {B : Nat} {a w : World} (h : Below B a w) (n : Nat) : Below B a (w.drewN n) := h.trans ⟨rfl, rfl, rfl, Nat.le_refl _, fun _ _ => rfl⟩
def oneStr : ByteArray := ⟨#[43, 45, 42, 47, 60, 62, 33, 63, 58, 44, 59, 61, 40, 41, 91, 93, 123, 125]⟩
theorem one_at : ∀ (k : Nat) (h : k < 18), signs.getD (6 + k) [] = [oneStr[k]'h] := by decide
theorem two_len : ∀ k, k < 6 → (signs.getD k []).length = 2 := by decide
theorem pre_two (s T : ByteArray) (p : Nat) (t : List UInt8) (hT : T = ⟨t.toArray⟩) (ht : t.length = 2) (h2 : p + 2 ≤ s.size) :
    Lib.hasPrefix (s.data.toList.drop p) t = ((s.extract p (p + 2)).toList == T.toList) := by
  rw [← Lib.hasPrefix_of_take, ht, Lib.extract_toList, List.length_drop, ← Lib.size_eq, show p + 2 - p = 2 by omega, decide_eq_true (show 2 ≤ s.size - p by omega), hT, Lib.toList_data]
  simp
theorem pre_far (s : ByteArray) (p : Nat) (t : List UInt8) (ht : t.length = 2) (h2 : ¬ p + 2 ≤ s.size) : Lib.hasPrefix (s.data.toList.drop p) t = false := by
  rw [← Lib.hasPrefix_of_take, ht, List.length_drop, ← Lib.size_eq, decide_eq_false (by omega)]
  rfl
theorem pre_one (s : ByteArray) (p : Nat) (c : UInt8) (h : p < s.size) : Lib.hasPrefix (s.data.toList.drop p) [c] = (((s[p]'h).toNat : Int) == (c.toNat : Int)) := by
  rw [drop_cons s p h]
  unfold Lib.hasPrefix
  rw [Bool.eq_iff_iff]
  simp [List.isPrefixOf]
  constructor
  · rintro rfl; rfl
  · intro h; exact (UInt8.toNat_inj.1 (by omega)).symm
theorem pre_end (s : ByteArray) (p : Nat) (c : UInt8) (h : ¬ p < s.size) : Lib.hasPrefix (s.data.toList.drop p) [c] = false := by
  rw [List.drop_eq_nil_of_le (by rw [← Lib.size_eq]; omega)]
  rfl

set_option maxHeartbeats 2000000 in
set_option maxRecDepth 100000 in
theorem rsign_any (s : ByteArray) (p : Nat) (w : World) (hs : s.size ≤ 140737488355328) (hp : p ≤ s.size) :
    Calls Tryd.prog 46 #[.string s, .int .i64 p] w fun e w' => e = .returned (.int .i64 ((p + signL (s.data.toList.drop p) : Nat) : Int)) ∧ Below w.heap.size w w' := by
  obtain ⟨M, hM⟩ : ∃ M, signIn (s.data.toList.drop p) signs = M := ⟨_, rfl⟩
  unfold signL
  rw [hM]
  have h00 : signIn (s.data.toList.drop p) (signs.drop 0) = M := hM
  clear hM
  have H0 := Lib.hid h00
  clear h00
  have h24 : signIn (s.data.toList.drop p) (signs.drop 24) = 0 := rfl
  have H24 := Lib.hid h24
  clear h24
  go_enter Tryd.func46, Tryd.ntmps46
  go_wp2_with fail
  go_loopw [6] (fun i wx => ∃ k : Nat, k ≤ 6 ∧ i = .int .i64 k ∧ Below w.heap.size w wx ∧ (∀ j, j < 6 → wx.cell? ⟨w.heap.size, j, none⟩ = some (.string ⟨(signs.getD j []).toArray⟩)) ∧ Hid (signIn (s.data.toList.drop p) (signs.drop k) = M)) (fun i _ => 6 - (intOf i).toNat)
  case atStart =>
    refine ⟨0, by omega, rfl, (Below.refl _ _).alloc (Nat.le_refl _) _, ?_, H0⟩
    intro j hj
    match j, hj with
    | 0, _ => simp; rfl
    | 1, _ => simp; rfl
    | 2, _ => simp; rfl
    | 3, _ => simp; rfl
    | 4, _ => simp; rfl
    | 5, _ => simp; rfl
  case round =>
    obtain ⟨k, hk, rfl, hb, hc, hR⟩ := hrel
    by_cases hlt : k < 6
    · have hck := hc k hlt
      have hst := signIn_step (s.data.toList.drop p) k (by omega)
      have htl := two_len k hlt
      have hp2 := pre_two s _ p _ rfl htl
      have hpf := pre_far s p _ htl
      rw [htl, hR.out] at hst
      obtain ⟨T, hT⟩ : ∃ T : ByteArray, ⟨(signs.getD k []).toArray⟩ = T := ⟨_, rfl⟩
      rw [hT] at hck hp2
      have HC := Lib.hid hc
      clear hc hT htl
      by_cases h2 : p + 2 ≤ s.size
      · have Q2 : decide ((p : Int) + 2 ≤ (s.size : Int)) = true := by simp; omega
        rw [hp2 h2] at hst
        have HS := Lib.hid hst
        clear hst hp2 hpf
        go_wp2_with fail
        go_quiet (fail)
        go_wp2_with fail
        · go_ret
          have ht : ((s.extract p (p + 2)).toList == T.toList) = true := by assumption
          have hm := HS.out
          rw [ht, if_pos rfl] at hm
          exact ⟨ret_i64 (by omega), bdn hb _⟩
        · have ht : ((s.extract p (p + 2)).toList == T.toList) = false := by assumption
          have hm := HS.out
          rw [ht, if_neg (by simp)] at hm
          refine ⟨⟨k + 1, by omega, by go_num, bdn hb _, fun j hj => by have := HC.out j hj; simpa using this, hm.symm⟩, ?_⟩
          simp [intOf]; omega
      · have Q2 : decide ((p : Int) + 2 ≤ (s.size : Int)) = false := by simp; omega
        rw [hpf h2, if_neg (by simp)] at hst
        have HS := Lib.hid hst
        clear hst hp2 hpf
        go_wp2_with fail
        go_quiet (fail)
        go_wp2_with fail
        refine ⟨⟨k + 1, by omega, by go_num, bdn hb _, fun j hj => by have := HC.out j hj; simpa using this, HS.out.symm⟩, ?_⟩
        simp [intOf]; omega
    · obtain rfl : k = 6 := by omega
      clear hc
      go_wp2_with fail
      go_loopw [8] (fun i wx => ∃ k : Nat, k ≤ 18 ∧ i = .int .i64 k ∧ Below w.heap.size w wx ∧ Hid (signIn (s.data.toList.drop p) (signs.drop (6 + k)) = M)) (fun i _ => 18 - (intOf i).toNat)
      case atStart => exact ⟨0, by omega, rfl, hb, hR⟩
      case round =>
        obtain ⟨k, hk, rfl, hb2, hR2⟩ := hrel
        by_cases hlk : k < 18
        · have hst := signIn_step (s.data.toList.drop p) (6 + k) (by omega)
          have h1 := one_at k hlk
          rw [h1, hR2.out] at hst
          have hki : k < (⟨#[43, 45, 42, 47, 60, 62, 33, 63, 58, 44, 59, 61, 40, 41, 91, 93, 123, 125]⟩ : ByteArray).size := hlk
          by_cases hpl : p < s.size
          · have Q2 : decide ((p : Int) < (s.size : Int)) = true := by simp; omega
            rw [pre_one s p _ hpl] at hst
            have HS := Lib.hid hst
            clear hst h1
            go_wp2_with fail
            go_quiet (fail)
            go_wp2_with fail
            · go_ret
              have ht : (((s[p]'hpl).toNat : Int) == (((⟨#[43, 45, 42, 47, 60, 62, 33, 63, 58, 44, 59, 61, 40, 41, 91, 93, 123, 125]⟩ : ByteArray)[k]'hki).toNat : Int)) = true := by assumption
              have hm := HS.out
              rw [if_pos (show (((s[p]'hpl).toNat : Int) == ((oneStr[k]'hlk).toNat : Int)) = true from ht)] at hm
              simp only [List.length_cons, List.length_nil] at hm
              exact ⟨ret_i64 (by omega), bdn hb2 _⟩
            · have ht : (((s[p]'hpl).toNat : Int) == (((⟨#[43, 45, 42, 47, 60, 62, 33, 63, 58, 44, 59, 61, 40, 41, 91, 93, 123, 125]⟩ : ByteArray)[k]'hki).toNat : Int)) = false := by assumption
              have hm := HS.out
              have ht2 : ¬ (((s[p]'hpl).toNat : Int) == ((oneStr[k]'hlk).toNat : Int)) = true := by
                intro h
                exact absurd (ht.symm.trans h) (by simp)
              rw [if_neg ht2] at hm
              refine ⟨⟨k + 1, by omega, by go_num, bdn hb2 _, hm.symm⟩, ?_⟩
              simp [intOf]; omega
          · have Q2 : decide ((p : Int) < (s.size : Int)) = false := by simp; omega
            rw [pre_end s p _ hpl, if_neg (by simp)] at hst
            have HS := Lib.hid hst
            clear hst h1
            go_wp2_with fail
            go_quiet (fail)
            go_wp2_with fail
            refine ⟨⟨k + 1, by omega, by go_num, bdn hb2 _, HS.out.symm⟩, ?_⟩
            simp [intOf]; omega
        · have hm := hR2.out
          rw [show 6 + k = 24 by omega, H24.out] at hm
          go_wp2_with fail
          go_ret
          exact ⟨ret_i64 (by omega), hb2⟩
end Go.Proofs.YtibnpbfggbbchaaDoor
