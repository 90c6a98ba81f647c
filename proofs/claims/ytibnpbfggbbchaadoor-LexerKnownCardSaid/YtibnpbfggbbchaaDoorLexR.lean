/- The walk of the reference's Tokens. -/
import Derived.Test.YtibnpbfggbbchaaDoorLexQ
namespace Go.Proofs.YtibnpbfggbbchaaDoor
open Go.RowKit Go.Lib

/-- What the reference's Tokens hands back. -/
def RTokEnd (R : Except Flt (List Tk)) (w : World) (e : Ending) (w' : World) : Prop :=
  Below w.heap.size w w' ∧ match R with
  | .ok ts => ∃ v, e = .returned (.tuple #[v, .pointer none]) ∧ w'.ownsRow w.heap.size 30 3 v ts.length (tkFlat ts)
  | .error f => ∃ b, w.heap.size ≤ b ∧ e = .returned (.tuple #[.slice none 0 0, .pointer (some ⟨b, 0, none⟩)]) ∧
      w'.heap[b]? = some (.cells #[.int .i64 f.1, .int .i64 f.2.1, .string ⟨f.2.2.toArray⟩] 46 (0, 0))

set_option maxHeartbeats 2000000 in
set_option maxRecDepth 100000 in
theorem rtokens_long (s : ByteArray) (w : World) (h : 65536 < s.size) :
    Calls Tryd.prog 15 #[.string s] w (RTokEnd (tokensL s.data.toList) w) := by
  have hr : tokensL s.data.toList = .error (3, 0, []) := by unfold tokensL; rw [if_pos (by rw [← Lib.size_eq]; exact h)]
  rw [hr]
  have Q : decide ((s.size : Int) > 65536) = true := by simp; omega
  clear hr h
  go_enter Tryd.func15, Tryd.ntmps15
  go_wp2
  go_ret2
  refine ⟨(Below.refl _ _).alloc (Nat.le_refl _) _, w.heap.size, Nat.le_refl _, rfl, ?_⟩
  exact heap_alloc_new w _

set_option maxHeartbeats 4000000 in
set_option maxRecDepth 100000 in
theorem rtokens_any (s : ByteArray) (w : World) (hs : s.size ≤ 65536) (hG : Gl w) :
    Calls Tryd.prog 15 #[.string s] w (RTokEnd (tokensL s.data.toList) w) := by
  have hr : tokensL s.data.toList = toksL s.size 0 (skipL s.data.toList) (s.data.toList.drop (skipL s.data.toList)) := by unfold tokensL; rw [if_neg (by rw [← Lib.size_eq]; omega), Lib.size_eq]
  have hr2 : contL [] (toksL s.size 0 (skipL s.data.toList) (s.data.toList.drop (skipL s.data.toList))) = tokensL s.data.toList := by
    rw [hr]
    cases toksL s.size 0 (skipL s.data.toList) (s.data.toList.drop (skipL s.data.toList)) <;> simp [contL]
  obtain ⟨R, hR⟩ : ∃ R, tokensL s.data.toList = R := ⟨_, rfl⟩
  rw [hR] at hr2 ⊢
  have HR := Lib.hid hr2
  have hsk := skipB_le false s.data.toList
  rw [← Lib.size_eq] at hsk
  have hsk2 : skipL s.data.toList ≤ s.size := hsk
  have c0 : Calls Tryd.prog 26 #[.string s, .int .i64 0] w fun e w' => e = .returned (.int .i64 (skipL s.data.toList)) ∧ w = w' := by
    have h := rskip_any s 0 w (by omega) (Nat.zero_le _)
    rw [List.drop_zero, Nat.zero_add] at h
    exact h
  obtain ⟨P0, hP0⟩ : ∃ P0, skipL s.data.toList = P0 := ⟨_, rfl⟩
  rw [hP0] at HR hsk2 c0
  have Q : decide ((s.size : Int) > 65536) = false := by simp; omega
  clear hr hr2 hR hsk hP0
  obtain ⟨i0, hi, hz0, hz1, hz2⟩ := info_parts Tryd.infoTok
  go_enter Tryd.func15, Tryd.ntmps15
  go_wp2_with (first | (go_at_call 26; (with_reducible refine c0.mono ?_); rintro e w1 ⟨rfl, rfl⟩))
  go_loopg [4, 5] s.size (fun gf v i wx => ∃ (p : Nat) (acc : List Tk), i = .int .i64 p ∧ p ≤ s.size ∧ Below w.heap.size w wx ∧ wx.ownsRow w.heap.size 30 3 v acc.length (tkFlat acc) ∧ acc.length ≤ 4096 ∧ Hid (contL acc (toksL gf acc.length p (s.data.toList.drop p)) = R) ∧ s.size ≤ p + gf)
  case atStart => exact ⟨P0, [], rfl, hsk2, Below.refl _ _, World.ownsRow_nil _ _ _ _, by simp, HR, by omega⟩
  case round =>
    obtain ⟨p, acc, rfl, hp, hb, hown, hlen, hS, hfu⟩ := hrel
    by_cases hlt : p < s.size
    · obtain ⟨g', rfl⟩ : ∃ g', gk = g' + 1 := ⟨gk - 1, by omega⟩
      have hxl : (s.extract p s.size).data.toList = s.data.toList.drop p := Lib.extract_to_end _ _
      have hxs : (s.extract p s.size).size = s.size - p := by rw [Lib.size_eq (s.extract _ _), hxl, List.length_drop, ← Lib.size_eq]
      have cW := rword_any s p wr (by omega) hp (hG.below hb)
      have cD := fun w1 (hb1 : Below wr.heap.size wr w1) => Tryd.utf8_DecodeRuneInString (s.extract p s.size) w1 ((hG.below hb).below hb1).2.2.2
      rw [decGo s p hlt] at cD
      have cS := fun q (hq : q ≤ s.size) W => rskip_any s q W (by omega) hq
      have hext := extract_mk s p
      obtain ⟨l, hl⟩ : ∃ l, s.data.toList.drop p = l := ⟨_, rfl⟩
      have hln : l.length = s.size - p := by rw [← hl, List.length_drop, ← Lib.size_eq]
      have hlne : l ≠ [] := by intro h; rw [h] at hln; simp at hln; omega
      have hdrop : ∀ K, s.data.toList.drop (p + K) = l.drop K := fun K => by rw [← hl, List.drop_drop]
      rw [hl] at cW cD hS
      simp only [hl] at hext
      have hS2 := hS.out
      rw [toksL_step _ _ _ _ hlne] at hS2
      have hwl := wordL_le l
      have hdl := dec_le l hlne
      have hd1 := dec_ge1 l
      have hsk := skipB_le false (l.drop (wordL l).2)
      rw [List.length_drop] at hsk
      obtain ⟨k, hk⟩ : ∃ k, (wordL l).1 = k := ⟨_, rfl⟩
      obtain ⟨n, hn⟩ : ∃ n, (wordL l).2 = n := ⟨_, rfl⟩
      obtain ⟨r, hr⟩ : ∃ r, (dec l).1 = r := ⟨_, rfl⟩
      obtain ⟨m, hm⟩ : ∃ m, (dec l).2 = m := ⟨_, rfl⟩
      have hrw := rword_eq l
      rw [hrw.1] at cW
      have hrk := hrw.2
      clear hrw
      rw [hn] at cW hrk
      rw [hk, hn] at hS2
      obtain ⟨k', hk'⟩ : ∃ k', (rwordL l).1 = k' := ⟨_, rfl⟩
      rw [hk'] at cW
      have hkk : 0 < n → k' = k := fun h => by rw [← hk', hrk h, hk]
      clear hk' hrk
      obtain ⟨E, hE⟩ : ∃ E, p + n = E := ⟨_, rfl⟩
      rw [hE] at cW
      rw [hr, hm] at cD
      rw [hm] at hS2 hdl hd1
      rw [hn] at hwl hsk
      clear hS hk hn hr hm hxl hxs hlne hl hG
      by_cases h0 : n = 0
      · have Q0 : ((E : Int) == (p : Int)) = true := by simp; omega
        rw [if_pos h0] at hS2
        simp only [contL] at hS2
        have HS := Lib.hid hS2
        have HX := Lib.hid (hext m)
        clear hS2 h0 cS hext hdrop hsk hwl hkk hE
        go_wp2_with (first | (go_at_call 27; (with_reducible refine cW.mono ?_); rintro e w1 ⟨rfl, hb1⟩) | (go_at_call 25; (with_reducible refine (cD _ hb1).mono ?_); rintro e w2 ⟨rfl, hb2⟩))
        clear cD cW Q0 Q
        have hpm : p + m ≤ s.size := by omega
        have X1 : IntKind.i64.wrap ((p : Int) + (m : Int)) = (p : Int) + (m : Int) := IntWalk.i64_in _ (by omega)
        have X2 : 0 ≤ (p : Int) + (m : Int) := by omega
        have X3 : ((p : Int) + (m : Int)).toNat = p + m := by omega
        go_region
        go_wp2
        go_ret2
        refine ⟨?_, ?_⟩
        · exact ((tr (tr hb hb1) hb2).alloc (tr (tr hb hb1) hb2).size _).drew
        · rw [← HS.out]
          refine ⟨w2.heap.size, (tr (tr hb hb1) hb2).size, rfl, ?_⟩
          rw [← HX.out]
          exact heap_alloc_new w2 _
      · have Q0 : ((E : Int) == (p : Int)) = false := by simp; omega
        rw [if_neg h0] at hS2
        obtain rfl := hkk (by omega)
        have hext2 := hext n
        rw [hE] at hext2
        have hpE : p ≤ E := by omega
        have hEs : E ≤ s.size := by omega
        by_cases h1 : acc.length = 4096
        · have Q1 : ((acc.length : Int) == 4096) = true := by simp; omega
          rw [if_pos h1] at hS2
          simp only [contL] at hS2
          have HS := Lib.hid hS2
          have HX := Lib.hid hext2
          obtain ⟨va, vc, rfl⟩ := own_shape hown
          clear hS2 h0 cS hext hext2 hdrop hsk hwl h1 cD hE hkk
          go_wp2_with (first | (go_at_call 27; (with_reducible refine cW.mono ?_); rintro e w1 ⟨rfl, hb1⟩))
          go_region
          go_wp2
          go_ret2
          refine ⟨?_, ?_⟩
          · exact ((tr hb hb1).alloc (tr hb hb1).size _).drew
          · rw [← HS.out]
            refine ⟨w1.heap.size, (tr hb hb1).size, rfl, ?_⟩
            rw [← HX.out]
            exact heap_alloc_new w1 _
        · have Q1 : ((acc.length : Int) == 4096) = false := by simp; omega
          rw [if_neg h1, contL_cons] at hS2
          have hn0 : 0 < n := by omega
          have HS := Lib.hid hS2
          have HX := Lib.hid hext2
          have HD := Lib.hid hdrop
          obtain ⟨q, hq⟩ : ∃ q, skipL (l.drop n) = q := ⟨_, rfl⟩
          have hsk2 : q ≤ l.length - n := by rw [← hq]; exact hsk
          obtain ⟨G, hG⟩ : ∃ G, E + q = G := ⟨_, rfl⟩
          have cSn : ∀ W, Calls Tryd.prog 26 #[.string s, .int .i64 E] W fun e w' => e = .returned (.int .i64 G) ∧ W = w' := fun W => by
            have h := cS E hEs W
            rw [← hE, hdrop, hq, hE, hG] at h
            exact h
          have HQ := Lib.hid hq
          have HE := Lib.hid hE
          have HG := Lib.hid hG
          have hGs : G ≤ s.size := by omega
          have hfuel : s.size ≤ G + g' := by omega
          have hshape := own_shape hown
          obtain ⟨va, vc, rfl⟩ := hshape
          clear hS2 h0 cS hext hext2 hdrop hsk hq cD hE hG hkk
          have hlen2 : acc.length < 4096 := by omega
          clear h1
          go_wp2_with (first | (go_at_call 27; (with_reducible refine cW.mono ?_); rintro e w1 ⟨rfl, hb1⟩; have hown1 := own_below hown hb1) | (at_builtin; refine wpList_append_own _ rfl (.tmp 56) (.tmp 64) 24 rfl (w.heap.size) 30 i0 (.agg #[.int .i64 0, .string ⟨#[]⟩, .int .i64 0]) 3 32 Tryd.underlying24 hi hz0 hz1 hz2 rfl (by decide) _ _ _ rfl (hown1.alloc _) ⟨w1.heap.size, 0, none⟩ 1 1 [.int .i64 (k' : Int), .string (s.extract p E), .int .i64 (p : Int)] rfl rfl (cell_three_new _ _ _ _ _) (fun x hx => by simp at hx; rcases hx with rfl | rfl | rfl <;> rfl) (by unfold maxLen; omega) (by omega) (by have := hb.size; have := hb1.size; simp; omega) ?_; intro v' w3 hown' hgrow3 hnil3) | (go_at_call 26; (with_reducible refine (cSn _).mono ?_); rintro e w4 ⟨rfl, rfl⟩))
          have hbw3 : Below w.heap.size w w3 := Below.grown ((tr hb hb1).alloc (tr hb hb1).size _) hgrow3 (by have := (tr hb hb1).size; simp; omega) (fun j hj => (hown1.lt _ hj).1)
          go_roundg g'
          case measure => omega
          case rel =>
            refine ⟨G, acc ++ [(k', l.take n, p)], rfl, hGs, hbw3, ?_, by simp; omega, ?_, hfuel⟩
            · rw [tkFlat_app, tkFlat_one]
              simp only [tkCells]
              rw [← HX.out]
              simpa using hown'
            · have h := HS.out
              rw [HQ.out] at h
              rw [← HG.out, ← HE.out, Nat.add_assoc p n q, HD.out, List.length_append, List.length_singleton]
              rw [Nat.add_assoc p n q] at h
              exact h
    · have hnil : s.data.toList.drop p = [] := List.drop_eq_nil_of_le (by rw [← Lib.size_eq]; omega)
      have hS2 := hS.out
      have htk : toksL gk acc.length p [] = .ok [] := by cases gk <;> simp [toksL]
      rw [hnil, htk] at hS2
      simp only [contL, List.append_nil] at hS2
      have HS := Lib.hid hS2
      clear hS2 hS hnil htk
      go_wp2
      go_ret2
      refine ⟨hb, ?_⟩
      rw [← HS.out]
      exact ⟨_, rfl, hown⟩
end Go.Proofs.YtibnpbfggbbchaaDoor
