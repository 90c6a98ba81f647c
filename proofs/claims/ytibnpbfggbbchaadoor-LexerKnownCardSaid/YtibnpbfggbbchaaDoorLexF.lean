/- The walks of lexer.Name, of the reference's first, digit, name. -/
import Derived.Test.YtibnpbfggbbchaaDoorLexE
namespace Go.Proofs.YtibnpbfggbbchaaDoor
open Go.RowKit Go.Lib

theorem numL_le (l : List UInt8) : numL l ≤ l.length := by
  have h1 := digs_le l
  have h2 := digs_le (l.drop (digs l + 1))
  rw [List.length_drop] at h2
  unfold numL
  split
  · omega
  · split
    · rename_i h
      have : (l.drop (digs l)).length ≠ 0 := by intro h0; rw [List.eq_nil_of_length_eq_zero h0] at h; simp at h
      rw [List.length_drop] at this
      omega
    · exact h1
theorem signIn_le (l : List UInt8) : ∀ ts, signIn l ts ≤ l.length
  | [] => Nat.zero_le _
  | t :: r => by
    unfold signIn
    split
    · rename_i h
      exact (List.isPrefixOf_iff_prefix.1 h).length_le
    · exact signIn_le l r
theorem wordL_le (l : List UInt8) : (wordL l).2 ≤ l.length := by
  have h1 := nameL_le l
  have h2 := numL_le l
  have h3 : signL l ≤ l.length := signIn_le l signs
  unfold wordL
  split
  · exact h1
  · split
    · exact h2
    · split
      · exact h3
      · exact Nat.zero_le _

set_option maxHeartbeats 1000000 in
theorem first_any (x : Nat) (hx : x ≤ 1114111) (w : World) (hG : Gl w) : Calls Tryd.prog 38 #[.int .i32 x] w fun e w' => e = .returned (.bool (x == 95 || Lib.isLetterU x)) ∧ Below w.heap.size w w' := by
  have cL := Tryd.unicode_IsLetter_all (x : Int) w (by omega) (by omega) hG.1 hG.2.1
  clear hG
  by_cases h1 : x = 95
  · have H1 : ((x : Int) == 95) = true := by simp; omega
    have hn : (x == 95) = true := by simp [h1]
    rw [hn]
    clear h1 cL hn
    go_enter Tryd.func38, Tryd.ntmps38
    go_wp2
    go_ret
    exact ⟨rfl, Below.refl _ _⟩
  · have H1 : ((x : Int) == 95) = false := by simp; omega
    have hn : (x == 95) = false := by simpa using h1
    rw [hn]
    obtain ⟨d, hd⟩ : ∃ d, Lib.isLetterU x = d := ⟨_, rfl⟩
    rw [hd] at cL ⊢
    clear h1 hn hd
    go_enter Tryd.func38, Tryd.ntmps38
    go_wp2_with (first | (go_at_call 33; refine cL.mono ?_; rintro e w' ⟨rfl, hb⟩))
    all_goals go_ret
    all_goals exact ⟨ret_bool (by simp), hb⟩

set_option maxHeartbeats 1000000 in
theorem digit_any (c : UInt8) (w : World) : Calls Tryd.prog 57 #[.int .u8 (c.toNat : Int)] w fun e w' => e = .returned (.bool (isDb c)) ∧ w = w' := by
  unfold isDb
  obtain ⟨x, hx⟩ : ∃ x, c.toNat = x := ⟨_, rfl⟩
  rw [hx]
  clear hx
  by_cases h1 : 48 ≤ x
  · by_cases h2 : x ≤ 57
    · have a1 : decide ((x : Int) ≥ 48) = true := by simp; omega
      have a2 : decide ((x : Int) ≤ 57) = true := by simp; omega
      go_enter Tryd.func57, Tryd.ntmps57
      go_wp2
      go_ret
      exact ⟨ret_bool (by simp [h1, h2]), rfl⟩
    · have a1 : decide ((x : Int) ≥ 48) = true := by simp; omega
      have a2 : decide ((x : Int) ≤ 57) = false := by simp; omega
      go_enter Tryd.func57, Tryd.ntmps57
      go_wp2
      go_ret
      exact ⟨ret_bool (by simp [h1, h2]), rfl⟩
  · have a1 : decide ((x : Int) ≥ 48) = false := by simp; omega
    go_enter Tryd.func57, Tryd.ntmps57
    go_wp2
    go_ret
    exact ⟨ret_bool (by simp [h1]), rfl⟩

theorem decGo (s : ByteArray) (pos : Nat) (h : pos < s.size) : Lib.decodeGo (s.extract pos s.size) = dec (s.data.toList.drop pos) := by
  unfold Lib.decodeGo
  have hsz : (s.extract pos s.size).size = s.size - pos := by rw [Lib.size_eq (s.extract _ _), Lib.extract_to_end, List.length_drop, ← Lib.size_eq]
  rw [if_neg (by omega), decode_dec, Lib.extract_to_end]
  simp

set_option maxHeartbeats 2000000 in
set_option maxRecDepth 100000 in
theorem rname_any (s : ByteArray) (p : Nat) (w : World) (hs : s.size ≤ maxLen) (hp : p ≤ s.size) (hG : Gl w) :
    Calls Tryd.prog 22 #[.string s, .int .i64 p] w fun e w' => e = .returned (.int .i64 ((p + nameL (s.data.toList.drop p) : Nat) : Int)) ∧ Below w.heap.size w w' := by
  unfold maxLen at hs
  obtain ⟨T, hT⟩ : ∃ T, p + nameL (s.data.toList.drop p) = T := ⟨_, rfl⟩
  rw [hT]
  have hT0 : p + runL isNm s.size (p - p) (s.data.toList.drop p) = T := by
    rw [← hT, nameL, Nat.sub_self, runL_fuel isNm s.size (s.data.toList.drop p).length 0 _ (by rw [List.length_drop, ← Lib.size_eq]; omega) (Nat.le_refl _)]
  have HT := Lib.hid hT0
  clear hT hT0
  have cD := fun pos wx (hb : Below w.heap.size w wx) => Tryd.utf8_DecodeRuneInString (s.extract pos s.size) wx (hG.below hb).2.2.2
  have cF := fun x hx wx (hb : Below w.heap.size w wx) => first_any x hx wx (hG.below hb)
  have cI := fun (x : Nat) (hx : x ≤ 1114111) wx (hb : Below w.heap.size w wx) => Tryd.unicode_IsDigit_all (x : Int) wx (by omega) (by omega) (hG.below hb).2.2.1
  clear hG
  go_enter Tryd.func22, Tryd.ntmps22
  go_wp2_with fail
  go_loopg [5] s.size (fun gf s5 wx => ∃ e : Nat, s5 = .int .i64 e ∧ p ≤ e ∧ e ≤ s.size ∧ Below w.heap.size w wx ∧ Hid (e + runL isNm gf (e - p) (s.data.toList.drop e) = T) ∧ s.size ≤ e + gf)
  case atStart => exact ⟨p, rfl, Nat.le_refl _, hp, Below.refl _ _, HT, by omega⟩
  case round =>
    obtain ⟨e, rfl, hpe, hes, hbw, hS, hfu⟩ := hrel
    by_cases hlt : e < s.size
    · obtain ⟨g', rfl⟩ : ∃ g', gk = g' + 1 := ⟨gk - 1, by omega⟩
      have cDe := cD e wr hbw
      rw [decGo s e hlt] at cDe
      obtain ⟨l, hl⟩ : ∃ l, s.data.toList.drop e = l := ⟨_, rfl⟩
      have hln : l.length = s.size - e := by rw [← hl, List.length_drop, ← Lib.size_eq]
      have hlne : l ≠ [] := by intro h; rw [h] at hln; simp at hln; omega
      have hdrop : ∀ K, s.data.toList.drop (e + K) = l.drop K := fun K => by rw [← hl, List.drop_drop]
      have hrun : runL isNm (g' + 1) (e - p) l = if badL l then 0 else if isNm (e - p) (dec l).1 then (dec l).2 + runL isNm g' (e - p + (dec l).2) (l.drop (dec l).2) else 0 := by
        rw [runL, if_neg hlne]
      have hk1 := dec_ge1 l
      have hk2 := dec_le l hlne
      have hr := dec_rune l
      have hbd : badL l = ((dec l).1 == 65533 && (dec l).2 == 1) := rfl
      rw [hl, hrun] at hS
      rw [hl] at cDe
      obtain ⟨R, hR⟩ : ∃ R, (dec l).1 = R := ⟨_, rfl⟩
      obtain ⟨K, hK⟩ : ∃ K, (dec l).2 = K := ⟨_, rfl⟩
      rw [hR, hK] at hS cDe hbd
      rw [hK] at hk1 hk2
      rw [hR] at hr
      rw [← hdrop] at hS
      have cFe := cF R hr
      have cIe := cI R hr
      obtain ⟨F, hF⟩ : ∃ F, (R == 95 || Lib.isLetterU R) = F := ⟨_, rfl⟩
      obtain ⟨D, hD⟩ : ∃ D, Lib.isDigitU R = D := ⟨_, rfl⟩
      have hnm : isNm (e - p) R = (F || (decide (0 < e - p) && D)) := by unfold isNm; rw [hF, hD]
      rw [hF] at cFe
      rw [hD] at cIe
      rw [hnm] at hS
      have hS2 := hS.out
      clear hS cD cF cI hrun hdrop hF hD hR hK hnm hl hlne
      have hcase : (R = 65533 ∧ K = 1 ∧ badL l = true) ∨ (badL l = false ∧ ((((R : Int) == 65533) = true ∧ ((K : Int) == 1) = false) ∨ ((R : Int) == 65533) = false)) := by
        rw [hbd]
        by_cases h1 : R = 65533
        · by_cases h2 : K = 1
          · left; simp [h1, h2]
          · right
            refine ⟨by simp [h2], Or.inl ⟨by simp [h1], ?_⟩⟩
            simp; omega
        · right
          refine ⟨by simp [h1], Or.inr ?_⟩
          simp; omega
      rcases hcase with ⟨rfl, rfl, hb⟩ | ⟨hb, hcase⟩
      · rw [hb, if_pos rfl] at hS2
        have HS := Lib.hid hS2
        clear hS2 hbd hb cFe cIe
        go_wp2_with (first | (go_at_call 25; (with_reducible refine cDe.mono ?_); rintro e w4 ⟨rfl, hb4⟩))
        go_ret
        exact ⟨ret_i64 (by rw [← HS.out]; rfl), tr hbw hb4⟩
      · rw [hb, if_neg (by simp)] at hS2
        clear hbd hb
        rcases hcase with ⟨q1, q2⟩ | q1
        all_goals (
          cases F with
          | true =>
            simp only [Bool.true_or, if_true] at hS2
            have HS := Lib.hid hS2
            clear hS2 cIe
            go_wp2_with (first | (go_at_call 25; (with_reducible refine cDe.mono ?_); rintro e w4 ⟨rfl, hb4⟩) | (go_at_call 38; (with_reducible refine (cFe _ (tr hbw hb4)).mono ?_); rintro e w5 ⟨rfl, hb5⟩) | (go_at_call 34; (with_reducible refine (cIe _ (tr (tr hbw hb4) hb5)).mono ?_); rintro e w6 ⟨rfl, hb6⟩))
            go_roundg g'
            case measure => omega
            case rel => exact ⟨e + K, by go_num, by omega, by omega, tr (tr hbw hb4) hb5, by rw [← HS.out, show e + K - p = e - p + K by omega]; show _ = _; omega, by omega⟩
          | false =>
            by_cases hep : e = p
            · have q3 : ((e : Int) == (p : Int)) = true := by simp; omega
              simp only [hep, Nat.sub_self, Bool.false_or, Nat.lt_irrefl, decide_false, Bool.false_and, Bool.false_eq_true, if_false] at hS2
              have HS := Lib.hid hS2
              have hep2 : p ≤ e ∧ e ≤ p := by omega
              clear hS2 cIe hep
              go_wp2_with (first | (go_at_call 25; (with_reducible refine cDe.mono ?_); rintro e w4 ⟨rfl, hb4⟩) | (go_at_call 38; (with_reducible refine (cFe _ (tr hbw hb4)).mono ?_); rintro e w5 ⟨rfl, hb5⟩) | (go_at_call 34; (with_reducible refine (cIe _ (tr (tr hbw hb4) hb5)).mono ?_); rintro e w6 ⟨rfl, hb6⟩))
              go_ret
              exact ⟨ret_i64 (by rw [← HS.out]; omega), tr (tr hbw hb4) hb5⟩
            · have q3 : ((e : Int) == (p : Int)) = false := by simp; omega
              have q4 : decide (0 < e - p) = true := by simp; omega
              rw [q4] at hS2
              clear q4
              cases D with
              | true =>
                simp only [Bool.false_or, Bool.true_and, if_true] at hS2
                have HS := Lib.hid hS2
                clear hS2 hep
                go_wp2_with (first | (go_at_call 25; (with_reducible refine cDe.mono ?_); rintro e w4 ⟨rfl, hb4⟩) | (go_at_call 38; (with_reducible refine (cFe _ (tr hbw hb4)).mono ?_); rintro e w5 ⟨rfl, hb5⟩) | (go_at_call 34; (with_reducible refine (cIe _ (tr (tr hbw hb4) hb5)).mono ?_); rintro e w6 ⟨rfl, hb6⟩))
                go_roundg g'
                case measure => omega
                case rel => exact ⟨e + K, by go_num, by omega, by omega, tr (tr (tr hbw hb4) hb5) hb6, by rw [← HS.out, show e + K - p = e - p + K by omega]; show _ = _; omega, by omega⟩
              | false =>
                simp only [Bool.false_or, Bool.true_and, Bool.false_eq_true, if_false] at hS2
                have HS := Lib.hid hS2
                clear hS2 hep
                go_wp2_with (first | (go_at_call 25; (with_reducible refine cDe.mono ?_); rintro e w4 ⟨rfl, hb4⟩) | (go_at_call 38; (with_reducible refine (cFe _ (tr hbw hb4)).mono ?_); rintro e w5 ⟨rfl, hb5⟩) | (go_at_call 34; (with_reducible refine (cIe _ (tr (tr hbw hb4) hb5)).mono ?_); rintro e w6 ⟨rfl, hb6⟩))
                go_ret
                exact ⟨ret_i64 (by rw [← HS.out]; rfl), tr (tr (tr hbw hb4) hb5) hb6⟩)
    · have hS2 := hS.out
      rw [List.drop_eq_nil_of_le (by rw [← Lib.size_eq]; omega), runL_nil] at hS2
      have HS := Lib.hid hS2
      clear hS2 hS cD cF cI
      go_wp2
      go_ret
      exact ⟨ret_i64 (by rw [← HS.out]; rfl), hbw⟩
end Go.Proofs.YtibnpbfggbbchaaDoor
