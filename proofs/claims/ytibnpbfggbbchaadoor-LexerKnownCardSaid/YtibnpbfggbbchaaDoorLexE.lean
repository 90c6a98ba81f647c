/- The walks of lexer.skip and lexer.Name. -/
import Derived.Test.YtibnpbfggbbchaaDoorLexD
namespace Go.Proofs.YtibnpbfggbbchaaDoor
open Go.RowKit Go.Lib

theorem indexByte_ge (l : List UInt8) (c : UInt8) : Lib.indexByte l c = -1 ∨ 0 ≤ Lib.indexByte l c := by
  induction l with
  | nil => left; rfl
  | cons b l ih =>
    unfold Lib.indexByte
    split
    · right; omega
    · split
      · left; rfl
      · right; rename_i h; simp at h; omega
theorem indexByte_lt (l : List UInt8) (c : UInt8) : Lib.indexByte l c < l.length := by
  induction l with
  | nil => simp [Lib.indexByte]
  | cons b l ih =>
    unfold Lib.indexByte
    split
    · simp
    · split
      · simp only [List.length_cons]; omega
      · simp only [List.length_cons]; omega
theorem bl_index (c : UInt8) : isBl c = decide (Lib.indexByte [32, 9, 10, 13] c ≥ 0) := by
  unfold isBl
  simp only [Lib.indexByte]
  by_cases h1 : (32 : UInt8) = c
  · subst h1; rfl
  by_cases h2 : (9 : UInt8) = c
  · subst h2; rfl
  by_cases h3 : (10 : UInt8) = c
  · subst h3; rfl
  by_cases h4 : (13 : UInt8) = c
  · subst h4; rfl
  have e1 : ((32 : UInt8) == c) = false := by simpa using h1
  have e2 : ((9 : UInt8) == c) = false := by simpa using h2
  have e3 : ((10 : UInt8) == c) = false := by simpa using h3
  have e4 : ((13 : UInt8) == c) = false := by simpa using h4
  have f1 : (c == 32) = false := by simpa using fun h => h1 h.symm
  have f2 : (c == 9) = false := by simpa using fun h => h2 h.symm
  have f3 : (c == 10) = false := by simpa using fun h => h3 h.symm
  have f4 : (c == 13) = false := by simpa using fun h => h4 h.symm
  simp [e1, e2, e3, e4, f1, f2, f3, f4]
/-- A comment's end. -/
theorem skip_comment : ∀ l : List UInt8, skipB true l = if Lib.indexByte l 10 = -1 then l.length else (Lib.indexByte l 10).toNat + skipB false (l.drop (Lib.indexByte l 10).toNat)
  | [] => rfl
  | c :: r => by
    have ih := skip_comment r
    have hg := indexByte_ge r 10
    unfold Lib.indexByte
    by_cases h : c = 10
    · subst h
      simp [skipB, isBl]
    · have e : (c == 10) = false := by simpa using h
      rw [skipB, if_neg h, ih, e]
      simp only [Bool.false_eq_true, if_false]
      by_cases h1 : Lib.indexByte r 10 = -1
      · rw [h1]
        simp
        omega
      · have e1 : (Lib.indexByte r 10 == -1) = false := by simpa using h1
        rw [e1]
        have h2 : (Lib.indexByte r 10 + 1).toNat = (Lib.indexByte r 10).toNat + 1 := by omega
        simp only [h1, if_false, Bool.false_eq_true]
        rw [if_neg (by omega), h2, List.drop_succ_cons]
        omega
theorem pre2 (c : UInt8) (r : List UInt8) : Lib.hasPrefix (c :: r) [47, 47] = decide (c = 47 ∧ r.head? = some 47) := by
  unfold Lib.hasPrefix
  cases r with
  | nil => simp [List.isPrefixOf]
  | cons d r =>
    rw [Bool.eq_iff_iff]
    simp [List.isPrefixOf]
    constructor
    · rintro ⟨rfl, rfl⟩; simp
    · rintro ⟨rfl, rfl⟩; simp
theorem skip_step (c : UInt8) (r : List UInt8) : skipB false (c :: r) = if isBl c then 1 + skipB false r else if Lib.hasPrefix (c :: r) [47, 47] then skipB true (c :: r) else 0 := by
  have h1 : skipB false (c :: r) = if isBl c then 1 + skipB false r else if c = 47 ∧ r.head? = some 47 then 1 + skipB true r else 0 := by rw [skipB]
  rw [h1, pre2]
  by_cases hb : isBl c = true
  · rw [if_pos hb, if_pos hb]
  · rw [if_neg hb, if_neg hb]
    by_cases h : c = 47 ∧ r.head? = some 47
    · rw [if_pos h, if_pos (by simpa using h), skipB, if_neg (by rw [h.1]; decide)]
    · rw [if_neg h, if_neg (by simpa using h)]
theorem index_ne (l : List UInt8) (h : Lib.hasPrefix l [47, 47] = true) : Lib.indexByte l 10 ≠ 0 := by
  cases l with
  | nil => simp [Lib.hasPrefix] at h
  | cons c r =>
    rw [pre2] at h
    simp only [decide_eq_true_eq] at h
    obtain ⟨rfl, _⟩ := h
    have := indexByte_ge r 10
    unfold Lib.indexByte
    rw [if_neg (by decide)]
    split
    · decide
    · rename_i h1; simp at h1; omega
theorem skipB_le : ∀ (b : Bool) (l : List UInt8), skipB b l ≤ l.length
  | b, [] => by cases b <;> simp [skipB]
  | true, c :: r => by
    have h1 := skipB_le true r
    have h2 := skipB_le false r
    unfold skipB
    split <;> simp <;> omega
  | false, c :: r => by
    have h1 := skipB_le true r
    have h2 := skipB_le false r
    unfold skipB
    split
    · simp; omega
    · split
      · simp; omega
      · simp
theorem drop_cons (s : ByteArray) (pos : Nat) (h : pos < s.size) : s.data.toList.drop pos = s[pos]'h :: s.data.toList.drop (pos + 1) := by
  rw [List.drop_eq_getElem_cons (by rw [← Lib.size_eq]; exact h)]
  rfl
theorem u8_back (c : UInt8) : ((c.toNat : Int)).toNat.toUInt8 = c := by simp

set_option maxHeartbeats 1000000 in
set_option maxRecDepth 100000 in
theorem skip_any (s : ByteArray) (w : World) (hs : s.size ≤ maxLen) :
    Calls Tryd.prog 24 #[.string s] w fun e w' => e = .returned (.int .i64 (skipL s.data.toList)) ∧ Below w.heap.size w w' := by
  unfold maxLen at hs
  have cI := fun (s : ByteArray) (c : UInt8) (W : World) => Tryd.strings_IndexByte s (c.toNat : Int) W
  simp only [u8_back] at cI
  have cH := fun (s p : ByteArray) (W : World) => Tryd.strings_HasPrefix s p W
  go_enter Tryd.func24, Tryd.ntmps24
  go_wp2_with fail
  go_step3
  go_wp2_with fail
  go_step3
  go_wp2_with fail
  go_loop [3] (fun i => ∃ pos : Nat, pos ≤ s.size ∧ i = .int .i64 pos ∧ Hid (pos + skipB false (s.data.toList.drop pos) = skipL s.data.toList)) (fun i => s.size - (intOf i).toNat)
  case atStart => exact ⟨0, by omega, rfl, by simp [Hid, skipL]⟩
  case round =>
    obtain ⟨pos, hp, rfl, hS⟩ := hrel
    by_cases hlt : pos < s.size
    · have hdc := drop_cons s pos hlt
      have hst := skip_step (s[pos]'hlt) (s.data.toList.drop (pos + 1))
      rw [← hdc] at hst
      have hbl := bl_index (s[pos]'hlt)
      have c1 := cI ⟨#[32, 9, 10, 13]⟩ (s[pos]'hlt) w
      have hex : (s.extract pos s.size).data.toList = s.data.toList.drop pos := Lib.extract_to_end _ _
      have c2 := cH (s.extract pos s.size) ⟨#[47, 47]⟩ w
      have c3 : Calls Tryd.prog 43 #[.string (s.extract pos s.size), .int .u8 10] w fun e w' => e = .returned (.int .i64 (Lib.indexByte (s.extract pos s.size).data.toList 10)) ∧ w' = w := Tryd.strings_IndexByte _ 10 w
      rw [hex] at c2 c3
      have hcm := skip_comment (s.data.toList.drop pos)
      have hge := indexByte_ge (s.data.toList.drop pos) 10
      have hlt2 := indexByte_lt (s.data.toList.drop pos) 10
      have hlen : (s.data.toList.drop pos).length = s.size - pos := by rw [List.length_drop, ← Lib.size_eq]
      have hin := index_ne (s.data.toList.drop pos)
      obtain ⟨l, hl⟩ : ∃ l, s.data.toList.drop pos = l := ⟨_, rfl⟩
      have hdr : ∀ k, s.data.toList.drop (pos + k) = l.drop k := fun k => by rw [← hl, List.drop_drop]
      rw [hdr] at hst
      rw [hl] at hst c2 c3 hcm hge hlt2 hlen hin hS
      obtain ⟨I, hI⟩ : ∃ I, Lib.indexByte [32, 9, 10, 13] (s[pos]'hlt) = I := ⟨_, rfl⟩
      rw [hI] at c1 hbl
      obtain ⟨J, hJ⟩ : ∃ J, Lib.indexByte l 10 = J := ⟨_, rfl⟩
      rw [hJ] at c3 hcm hge hlt2 hin
      have hS2 := hS.out
      clear hS cI cH hdc hex hJ hI hl
      rw [hst, hbl] at hS2
      by_cases hI0 : I ≥ 0
      · have HI : decide (I ≥ 0) = true := by simpa using hI0
        rw [HI, if_pos rfl] at hS2
        have HS := Lib.hid hS2
        have HD := Lib.hid hdr
        clear hS2 hst hbl hcm hin hge hlt2 hdr hI0 c2 c3
        go_wp2_with (first | (go_at_call 43; (with_reducible refine c1.mono ?_); rintro e w4 ⟨rfl, rfl⟩))
        go_round
        case rel => exact ⟨pos + 1, by omega, by go_num, by rw [HD.out, ← HS.out]; show _ = _; omega⟩
        case measure => simp [intOf]; omega
      · have HI : decide (I ≥ 0) = false := by simpa using hI0
        rw [HI, if_neg (by simp)] at hS2
        cases hp : Lib.hasPrefix l [47, 47] <;> rw [hp] at c2 hS2
        · rw [if_neg (by simp)] at hS2
          have HS := Lib.hid hS2
          clear hS2 hst hbl hcm hin hge hlt2 hdr hI0 c3 hp
          go_wp2_with (first | (go_at_call 43; (with_reducible refine c1.mono ?_); rintro e w4 ⟨rfl, rfl⟩) | (go_at_call 37; (with_reducible refine c2.mono ?_); rintro e w4 ⟨rfl, rfl⟩))
          rw [Exit.noGoto_ret]
          go_ret
          exact ⟨ret_i64 (by rw [← HS.out]; rfl), Below.refl _ _⟩
        · rw [if_pos rfl, hcm] at hS2
          have hj0 := hin hp
          by_cases hj : J = -1
          · rw [if_pos hj, hlen] at hS2
            have HJ : decide (J ≥ 0) = false := by simp; omega
            have HS := Lib.hid hS2
            clear hS2 hst hbl hcm hin hge hlt2 hdr hI0 hp hj0 hj
            go_wp2_with (first | (go_at_call 43; (with_reducible refine c1.mono ?_); rintro e w4 ⟨rfl, rfl⟩) | (go_at_call 37; (with_reducible refine c2.mono ?_); rintro e w4 ⟨rfl, rfl⟩) | (go_at_call 43; (with_reducible refine c3.mono ?_); rintro e w4 ⟨rfl, rfl⟩))
            rw [Exit.noGoto_ret]
            go_ret
            exact ⟨ret_i64 (by rw [← HS.out]; omega), Below.refl _ _⟩
          · rw [if_neg hj] at hS2
            have HJ : decide (J ≥ 0) = true := by simp; omega
            have HS := Lib.hid hS2
            obtain ⟨j, rfl⟩ : ∃ j : Nat, J = j := ⟨J.toNat, by omega⟩
            have HD := Lib.hid hdr
            have hjp : 0 < j := by omega
            have hjl : pos + j < s.size := by omega
            clear hS2 hst hbl hcm hin hge hlt2 hdr hI0 hp hj0 hj
            go_wp2_with (first | (go_at_call 43; (with_reducible refine c1.mono ?_); rintro e w4 ⟨rfl, rfl⟩) | (go_at_call 37; (with_reducible refine c2.mono ?_); rintro e w4 ⟨rfl, rfl⟩) | (go_at_call 43; (with_reducible refine c3.mono ?_); rintro e w4 ⟨rfl, rfl⟩))
            go_round
            case rel => exact ⟨pos + j, by omega, by go_num, by rw [HD.out, ← HS.out]; show _ = _; simp; omega⟩
            case measure => simp [intOf]; omega
    · have e : pos = skipL s.data.toList := by
        rw [← hS.out, List.drop_eq_nil_of_le (by rw [← Lib.size_eq]; omega)]
        rfl
      clear cI cH hS
      have HE := Lib.hid e
      clear e
      go_wp2
      go_ret
      exact ⟨ret_i64 (by rw [HE.out]), Below.refl _ _⟩
end Go.Proofs.YtibnpbfggbbchaaDoor
