/- The walk of the reference's Tokens. The walks of the reference's Reserved, plain, number, signs, Level. The walks of the reference's all, arguments, expression. The walks of the reference's expression: numbers, names, lists, indices, picks. -/
import Derived.Test.YtpbkeamjdolpgaaGreatDoorB07
import Derived.Test.YtpbkeamjdolpgaaGreatDoorB06
import Derived.Test.YtpbkeamjdolpgaaGreatDoorB09
namespace Go.Proofs.YtpbkeamjdolpgaaGreatDoor
open Go.RowKit Go.Lib

/-- What the reference's Tokens hands back. -/
def RTokEnd (R : Except Flt (List Tk)) (w : World) (e : Ending) (w' : World) : Prop :=
  Below w.heap.size w w' ∧ match R with
  | .ok ts => ∃ v, e = .returned (.tuple #[v, .pointer none]) ∧ w'.ownsRow w.heap.size 46 3 v ts.length (tkFlat ts)
  | .error f => ∃ b, w.heap.size ≤ b ∧ e = .returned (.tuple #[.slice none 0 0, .pointer (some ⟨b, 0, none⟩)]) ∧
      w'.heap[b]? = some (.cells #[.int .i64 f.1, .int .i64 f.2.1, .string ⟨f.2.2.toArray⟩] 61 (0, 0))

set_option maxHeartbeats 2000000 in
set_option maxRecDepth 100000 in
theorem rtokens_long (s : ByteArray) (w : World) (h : 65536 < s.size) :
    Calls Tryz.prog 44 #[.string s] w (RTokEnd (tokensL s.data.toList) w) := by
  have hr : tokensL s.data.toList = .error (3, 0, []) := by unfold tokensL; rw [if_pos (by rw [← Lib.size_eq]; exact h)]
  rw [hr]
  have Q : decide ((s.size : Int) > 65536) = true := by simp; omega
  clear hr h
  go_enter Tryz.func44, Tryz.ntmps44
  go_wp2
  go_ret2
  refine ⟨(Below.refl _ _).alloc (Nat.le_refl _) _, w.heap.size, Nat.le_refl _, rfl, ?_⟩
  exact heap_alloc_new w _

set_option maxHeartbeats 4000000 in
set_option maxRecDepth 100000 in
theorem rtokens_any (s : ByteArray) (w : World) (hs : s.size ≤ 65536) (hG : Gl w) :
    Calls Tryz.prog 44 #[.string s] w (RTokEnd (tokensL s.data.toList) w) := by
  have hr : tokensL s.data.toList = toksL s.size 0 (skipL s.data.toList) (s.data.toList.drop (skipL s.data.toList)) := by unfold tokensL; rw [if_neg (by rw [← Lib.size_eq]; omega), Lib.size_eq]
  have hr2 : contL [] (toksL s.size 0 (skipL s.data.toList) (s.data.toList.drop (skipL s.data.toList))) = tokensL s.data.toList := by
    rw [hr]
    cases toksL s.size 0 (skipL s.data.toList) (s.data.toList.drop (skipL s.data.toList)) <;> simp [contL]
  obtain ⟨R, hR⟩ : ∃ R, tokensL s.data.toList = R := ⟨_, rfl⟩
  rw [hR] at hr2 ⊢
  have HR := Lib.hid hr2
  have hsk := skipB_le false s.data.toList
  rw [← Lib.size_eq] at hsk
  have hsk2 : skipL s.data.toList ≤ s.size := hsk
  have c0 : Calls Tryz.prog 79 #[.string s, .int .i64 0] w fun e w' => e = .returned (.int .i64 (skipL s.data.toList)) ∧ w = w' := by
    have h := rskip_any s 0 w (by omega) (Nat.zero_le _)
    rw [List.drop_zero, Nat.zero_add] at h
    exact h
  obtain ⟨P0, hP0⟩ : ∃ P0, skipL s.data.toList = P0 := ⟨_, rfl⟩
  rw [hP0] at HR hsk2 c0
  have Q : decide ((s.size : Int) > 65536) = false := by simp; omega
  clear hr hr2 hR hsk hP0
  obtain ⟨i0, hi, hz0, hz1, hz2⟩ := info_parts Tryz.infoTok
  go_enter Tryz.func44, Tryz.ntmps44
  go_wp2_with (first | (go_at_call 79; (with_reducible refine c0.mono ?_); rintro e w1 ⟨rfl, rfl⟩))
  go_loopg [4, 5] s.size (fun gf v i wx => ∃ (p : Nat) (acc : List Tk), i = .int .i64 p ∧ p ≤ s.size ∧ Below w.heap.size w wx ∧ wx.ownsRow w.heap.size 46 3 v acc.length (tkFlat acc) ∧ acc.length ≤ 4096 ∧ Hid (contL acc (toksL gf acc.length p (s.data.toList.drop p)) = R) ∧ s.size ≤ p + gf)
  case atStart => exact ⟨P0, [], rfl, hsk2, Below.refl _ _, World.ownsRow_nil _ _ _ _, by simp, HR, by omega⟩
  case round =>
    obtain ⟨p, acc, rfl, hp, hb, hown, hlen, hS, hfu⟩ := hrel
    by_cases hlt : p < s.size
    · obtain ⟨g', rfl⟩ : ∃ g', gk = g' + 1 := ⟨gk - 1, by omega⟩
      have hxl : (s.extract p s.size).data.toList = s.data.toList.drop p := Lib.extract_to_end _ _
      have hxs : (s.extract p s.size).size = s.size - p := by rw [Lib.size_eq (s.extract _ _), hxl, List.length_drop, ← Lib.size_eq]
      have cW := rword_any s p wr (by omega) hp (hG.below hb)
      have cD := fun w1 (hb1 : Below wr.heap.size wr w1) => Tryz.utf8_DecodeRuneInString (s.extract p s.size) w1 ((hG.below hb).below hb1).2.2.2
      rw [decGo s p hlt] at cD
      have cS := fun q (hq : q ≤ s.size) W => rskip_any s q W (by omega) hq
      have hext := extract_mk s p
      obtain ⟨l, hl⟩ : ∃ l, s.data.toList.drop p = l := ⟨_, rfl⟩
      have hln : l.length = s.size - p := by rw [← hl, List.length_drop, ← Lib.size_eq]
      have hlne : l ≠ [] := by intro h; rw [h] at hln; simp at hln; omega
      have hdrop : ∀ K, s.data.toList.drop (p + K) = l.drop K := fun K => by rw [← hl, List.drop_drop]
      rw [hl] at cW cD hS
      simp only [hl] at hext
      have hS2 := hS.out
      rw [toksL_step _ _ _ _ hlne] at hS2
      have hwl := wordL_le l
      have hdl := dec_le l hlne
      have hd1 := dec_ge1 l
      have hsk := skipB_le false (l.drop (wordL l).2)
      rw [List.length_drop] at hsk
      obtain ⟨k, hk⟩ : ∃ k, (wordL l).1 = k := ⟨_, rfl⟩
      obtain ⟨n, hn⟩ : ∃ n, (wordL l).2 = n := ⟨_, rfl⟩
      obtain ⟨r, hr⟩ : ∃ r, (dec l).1 = r := ⟨_, rfl⟩
      obtain ⟨m, hm⟩ : ∃ m, (dec l).2 = m := ⟨_, rfl⟩
      have hrw := rword_eq l
      rw [hrw.1] at cW
      have hrk := hrw.2
      clear hrw
      rw [hn] at cW hrk
      rw [hk, hn] at hS2
      obtain ⟨k', hk'⟩ : ∃ k', (rwordL l).1 = k' := ⟨_, rfl⟩
      rw [hk'] at cW
      have hkk : 0 < n → k' = k := fun h => by rw [← hk', hrk h, hk]
      clear hk' hrk
      obtain ⟨E, hE⟩ : ∃ E, p + n = E := ⟨_, rfl⟩
      rw [hE] at cW
      rw [hr, hm] at cD
      rw [hm] at hS2 hdl hd1
      rw [hn] at hwl hsk
      clear hS hk hn hr hm hxl hxs hlne hl hG
      by_cases h0 : n = 0
      · have Q0 : ((E : Int) == (p : Int)) = true := by simp; omega
        rw [if_pos h0] at hS2
        simp only [contL] at hS2
        have HS := Lib.hid hS2
        have HX := Lib.hid (hext m)
        clear hS2 h0 cS hext hdrop hsk hwl hkk hE
        go_wp2_with (first | (go_at_call 80; (with_reducible refine cW.mono ?_); rintro e w1 ⟨rfl, hb1⟩) | (go_at_call 65; (with_reducible refine (cD _ hb1).mono ?_); rintro e w2 ⟨rfl, hb2⟩))
        clear cD cW Q0 Q
        have hpm : p + m ≤ s.size := by omega
        have X1 : IntKind.i64.wrap ((p : Int) + (m : Int)) = (p : Int) + (m : Int) := IntWalk.i64_in _ (by omega)
        have X2 : 0 ≤ (p : Int) + (m : Int) := by omega
        have X3 : ((p : Int) + (m : Int)).toNat = p + m := by omega
        go_region
        go_wp2
        go_ret2
        refine ⟨?_, ?_⟩
        · exact ((tr (tr hb hb1) hb2).alloc (tr (tr hb hb1) hb2).size _).drew
        · rw [← HS.out]
          refine ⟨w2.heap.size, (tr (tr hb hb1) hb2).size, rfl, ?_⟩
          rw [← HX.out]
          exact heap_alloc_new w2 _
      · have Q0 : ((E : Int) == (p : Int)) = false := by simp; omega
        rw [if_neg h0] at hS2
        obtain rfl := hkk (by omega)
        have hext2 := hext n
        rw [hE] at hext2
        have hpE : p ≤ E := by omega
        have hEs : E ≤ s.size := by omega
        by_cases h1 : acc.length = 4096
        · have Q1 : ((acc.length : Int) == 4096) = true := by simp; omega
          rw [if_pos h1] at hS2
          simp only [contL] at hS2
          have HS := Lib.hid hS2
          have HX := Lib.hid hext2
          obtain ⟨va, vc, rfl⟩ := own_shape hown
          clear hS2 h0 cS hext hext2 hdrop hsk hwl h1 cD hE hkk
          go_wp2_with (first | (go_at_call 80; (with_reducible refine cW.mono ?_); rintro e w1 ⟨rfl, hb1⟩))
          go_region
          go_wp2
          go_ret2
          refine ⟨?_, ?_⟩
          · exact ((tr hb hb1).alloc (tr hb hb1).size _).drew
          · rw [← HS.out]
            refine ⟨w1.heap.size, (tr hb hb1).size, rfl, ?_⟩
            rw [← HX.out]
            exact heap_alloc_new w1 _
        · have Q1 : ((acc.length : Int) == 4096) = false := by simp; omega
          rw [if_neg h1, contL_cons] at hS2
          have hn0 : 0 < n := by omega
          have HS := Lib.hid hS2
          have HX := Lib.hid hext2
          have HD := Lib.hid hdrop
          obtain ⟨q, hq⟩ : ∃ q, skipL (l.drop n) = q := ⟨_, rfl⟩
          have hsk2 : q ≤ l.length - n := by rw [← hq]; exact hsk
          obtain ⟨G, hG⟩ : ∃ G, E + q = G := ⟨_, rfl⟩
          have cSn : ∀ W, Calls Tryz.prog 79 #[.string s, .int .i64 E] W fun e w' => e = .returned (.int .i64 G) ∧ W = w' := fun W => by
            have h := cS E hEs W
            rw [← hE, hdrop, hq, hE, hG] at h
            exact h
          have HQ := Lib.hid hq
          have HE := Lib.hid hE
          have HG := Lib.hid hG
          have hGs : G ≤ s.size := by omega
          have hfuel : s.size ≤ G + g' := by omega
          have hshape := own_shape hown
          obtain ⟨va, vc, rfl⟩ := hshape
          clear hS2 h0 cS hext hext2 hdrop hsk hq cD hE hG hkk
          have hlen2 : acc.length < 4096 := by omega
          clear h1
          go_wp2_with (first | (go_at_call 80; (with_reducible refine cW.mono ?_); rintro e w1 ⟨rfl, hb1⟩; have hown1 := own_below hown hb1) | (at_builtin; refine wpList_append_own _ rfl (.tmp 56) (.tmp 64) 41 rfl (w.heap.size) 46 i0 (.agg #[.int .i64 0, .string ⟨#[]⟩, .int .i64 0]) 3 32 Tryz.underlying41 hi hz0 hz1 hz2 rfl (by decide) _ _ _ rfl (hown1.alloc _) ⟨w1.heap.size, 0, none⟩ 1 1 [.int .i64 (k' : Int), .string (s.extract p E), .int .i64 (p : Int)] rfl rfl (cell_three_new _ _ _ _ _) (fun x hx => by simp at hx; rcases hx with rfl | rfl | rfl <;> rfl) (by unfold maxLen; omega) (by omega) (by have := hb.size; have := hb1.size; simp; omega) ?_; intro v' w3 hown' hgrow3 hnil3) | (go_at_call 79; (with_reducible refine (cSn _).mono ?_); rintro e w4 ⟨rfl, rfl⟩))
          have hbw3 : Below w.heap.size w w3 := Below.grown ((tr hb hb1).alloc (tr hb hb1).size _) hgrow3 (by have := (tr hb hb1).size; simp; omega) (fun j hj => (hown1.lt _ hj).1)
          go_roundg g'
          case measure => omega
          case rel =>
            refine ⟨G, acc ++ [(k', l.take n, p)], rfl, hGs, hbw3, ?_, by simp; omega, ?_, hfuel⟩
            · rw [tkFlat_app, tkFlat_one]
              simp only [tkCells]
              rw [← HX.out]
              simpa using hown'
            · have h := HS.out
              rw [HQ.out] at h
              rw [← HG.out, ← HE.out, Nat.add_assoc p n q, HD.out, List.length_append, List.length_singleton]
              rw [Nat.add_assoc p n q] at h
              exact h
    · have hnil : s.data.toList.drop p = [] := List.drop_eq_nil_of_le (by rw [← Lib.size_eq]; omega)
      have hS2 := hS.out
      have htk : toksL gk acc.length p [] = .ok [] := by cases gk <;> simp [toksL]
      rw [hnil, htk] at hS2
      simp only [contL, List.append_nil] at hS2
      have HS := Lib.hid hS2
      clear hS2 hS hnil htk
      go_wp2
      go_ret2
      refine ⟨hb, ?_⟩
      rw [← HS.out]
      exact ⟨_, rfl, hown⟩
end Go.Proofs.YtpbkeamjdolpgaaGreatDoor
namespace Go.Proofs.YtpbkeamjdolpgaaGreatDoor
open Go.RowKit Go.Lib Go.Shelf Go.Sort

set_option maxHeartbeats 4000000 in
set_option maxRecDepth 100000 in
theorem rresv_any (s : List UInt8) (w : World) : Calls Tryz.prog 140 #[.string ⟨s.toArray⟩] w fun e w' => e = .returned (.bool (resv s)) ∧ w = w' := by
  by_cases h1 : s = wModule
  · subst h1
    unfold wModule
    go_enter Tryz.func140, Tryz.ntmps140
    go_wp2_with fail
    go_ret
    exact ⟨rfl, rfl⟩
  have Q1 : (s == [109, 111, 100, 117, 108, 101]) = false := str_ne h1
  by_cases h2 : s = wFunction
  · subst h2
    unfold wFunction
    clear Q1
    go_enter Tryz.func140, Tryz.ntmps140
    go_wp2_with fail
    go_ret
    exact ⟨rfl, rfl⟩
  have Q2 : (s == [102, 117, 110, 99, 116, 105, 111, 110]) = false := str_ne h2
  by_cases h3 : s = wFor
  · subst h3
    unfold wFor
    clear Q1 Q2
    go_enter Tryz.func140, Tryz.ntmps140
    go_wp2_with fail
    go_ret
    exact ⟨rfl, rfl⟩
  have Q3 : (s == [102, 111, 114]) = false := str_ne h3
  by_cases h4 : s = wIf
  · subst h4
    unfold wIf
    clear Q1 Q2 Q3
    go_enter Tryz.func140, Tryz.ntmps140
    go_wp2_with fail
    go_ret
    exact ⟨rfl, rfl⟩
  have Q4 : (s == [105, 102]) = false := str_ne h4
  by_cases h5 : s = wElse
  · subst h5
    unfold wElse
    clear Q1 Q2 Q3 Q4
    go_enter Tryz.func140, Tryz.ntmps140
    go_wp2_with fail
    go_ret
    exact ⟨rfl, rfl⟩
  have Q5 : (s == [101, 108, 115, 101]) = false := str_ne h5
  have hr : resv s = false := by unfold resv; simp [h1, h2, h3, h4, h5]
  rw [hr]
  clear h1 h2 h3 h4 h5 hr
  go_enter Tryz.func140, Tryz.ntmps140
  go_wp2_with fail
  go_ret
  exact ⟨rfl, rfl⟩

set_option maxHeartbeats 4000000 in
set_option maxRecDepth 100000 in
theorem rplain_any (s : List UInt8) (w : World) (hs : s.length ≤ 2 ^ 47) (hG : Gl w) : Calls Tryz.prog 153 #[.string ⟨s.toArray⟩] w (Yes (plainR s) w) := by
  have c1 := rName_any ⟨s.toArray⟩ w (by unfold maxLen; show s.toArray.size ≤ _; simp; omega) hG
  have c2 := fun w1 => rresv_any s w1
  rw [plain_ok]
  have e : (⟨s.toArray⟩ : ByteArray).data.toList = s := rfl
  rw [e] at c1
  obtain ⟨B, hB⟩ : ∃ B, nameOk s = B := ⟨_, rfl⟩
  obtain ⟨C, hC⟩ : ∃ C, resv s = C := ⟨_, rfl⟩
  rw [hB] at c1 ⊢
  rw [hC] at c2 ⊢
  clear hB hC hs hG e
  cases B
  all_goals (
    go_enter Tryz.func153, Tryz.ntmps153
    go_wp2_with fail
    refine c1.mono ?_
    clear c1
    rintro e w1 ⟨rfl, hb1⟩
    go_wp2_with fail
    refine (c2 _).mono ?_
    clear c2
    rintro e w2 ⟨rfl, rfl⟩
    go_wp2_with fail
    go_ret
    exact ⟨rfl, hb1⟩)

theorem rtokens_all (s : ByteArray) (w : World) (hG : Gl w) : Calls Tryz.prog 44 #[.string s] w (RTokEnd (tokensL s.data.toList) w) := by
  by_cases h : s.size ≤ 65536
  · exact rtokens_any s w h hG
  · exact rtokens_long s w (by omega)

def numX (T : Except Flt (List Tk)) (s : List UInt8) : Bool := match T with | .ok [t] => decide (t.1 = 1) && decide (t.2.1 = s) | _ => false
set_option maxHeartbeats 4000000 in
set_option maxRecDepth 100000 in
theorem rnumber_any27 (s : List UInt8) (w : World) (hG : Gl w) : Calls Tryz.prog 192 #[.string ⟨s.toArray⟩] w (Yes (numR s) w) := by
  have c1 := rtokens_all ⟨s.toArray⟩ w hG
  have e : (⟨s.toArray⟩ : ByteArray).data.toList = s := rfl
  rw [e] at c1
  obtain ⟨R, hR⟩ : ∃ R, numR s = R := ⟨_, rfl⟩
  obtain ⟨T, hT⟩ : ∃ T, tokensL s = T := ⟨_, rfl⟩
  have hr : R = numX T s := by rw [← hR, ← hT]; rfl
  rw [hR]
  rw [hT] at c1
  clear hR hT hG e
  cases T with
  | error f =>
    have HR : Hid (R = false) := hr
    clear hr
    go_enter Tryz.func192, Tryz.ntmps192
    go_wp2_with fail
    refine c1.mono ?_
    clear c1
    rintro e w1 ⟨hb1, b, hb, rfl, _⟩
    go_wp2_with fail
    go_ret
    exact ⟨by rw [HR.out]; rfl, hb1⟩
  | ok ts =>
    by_cases hl : ts.length = 1
    · obtain ⟨t, rfl⟩ := List.length_eq_one_iff.1 hl
      obtain ⟨k, u, p⟩ := t
      have HR : Hid (R = (decide (k = 1) && decide (u = s))) := hr
      clear hr hl
      go_enter Tryz.func192, Tryz.ntmps192
      go_wp2_with fail
      refine c1.mono ?_
      clear c1
      rintro e w1 ⟨hb1, v, rfl, hown⟩
      obtain ⟨x, c, rfl⟩ := own_shape hown
      obtain ⟨g, rfl, x0, x1, _⟩ := tokRow_own hown 0 (k, u, p) rfl
      have y0 : w1.cell? ⟨g, 0, none⟩ = some (.int .i64 k) := by simpa using x0
      have y1 : w1.cell? ⟨g, 1, none⟩ = some (.string ⟨u.toArray⟩) := by simpa using x1
      clear hown x0 x1
      by_cases h1 : k = 1
      · subst h1
        by_cases h2 : u = s
        · subst h2
          go_wp2_with fail
          go_ret
          exact ⟨by rw [HR.out]; simp, hb1⟩
        · have Q := str_ne h2
          have HR2 : Hid (R = false) := by
            show R = false
            rw [HR.out]
            simp [h2]
          clear HR h2
          go_wp2_with fail
          go_ret
          exact ⟨by rw [HR2.out]; rfl, hb1⟩
      · have Q : ((k : Int) == 1) = false := beq_eq_false_iff_ne.2 (by omega)
        have HR2 : Hid (R = false) := by
          show R = false
          rw [HR.out]
          simp [h1]
        clear HR h1
        go_wp2_with fail
        go_ret
        exact ⟨by rw [HR2.out]; rfl, hb1⟩
    · have HR : Hid (R = false) := by
        show R = false
        rw [hr]
        match ts, hl with
        | [], _ => rfl
        | _ :: _ :: _, _ => rfl
      have Q : ((ts.length : Int) == 1) = false := beq_eq_false_iff_ne.2 (by omega)
      clear hr hl
      go_enter Tryz.func192, Tryz.ntmps192
      go_wp2_with fail
      refine c1.mono ?_
      clear c1
      rintro e w1 ⟨hb1, v, rfl, hown⟩
      obtain ⟨x, c, rfl⟩ := own_shape hown
      obtain ⟨n, hn⟩ : ∃ n, ts.length = n := ⟨_, rfl⟩
      rw [hn] at Q ⊢
      clear hown hn
      go_wp2_with fail
      go_ret
      exact ⟨by rw [HR.out]; rfl, hb1⟩

/-- What the reference's signs hands back. -/
def SgEnd (k : Nat) (w : World) (e : Ending) (w' : World) : Prop := e = .returned (.slice (some ⟨w.heap.size, 0, none⟩) (signsK k).length (signsK k).length) ∧ Below w.heap.size w w' ∧ StrRow w' w.heap.size 0 (signsK k)
set_option maxHeartbeats 4000000 in
set_option maxRecDepth 100000 in
theorem rsigns_any (k : Nat) (hk : k < 5) (w : World) : Calls Tryz.prog 220 #[.int .i64 k] w (SgEnd k w) := by
  have hal : ∀ (xs : Array Value) (t : TypeId), Below w.heap.size w (w.alloc (.cells xs t)) := fun xs t => (Below.refl _ _).alloc (Nat.le_refl _) _
  have hst : ∀ (l : List (List UInt8)) (t : TypeId), StrRow (w.alloc (.cells (l.map fun s => Value.string ⟨s.toArray⟩).toArray t)) w.heap.size 0 l := fun l t j u hj => by
    rw [Nat.zero_add]
    unfold World.cell?
    rw [show (⟨w.heap.size, j, none⟩ : Addr).block = w.heap.size from rfl, heap_alloc_new]
    simp [hj]
  unfold SgEnd
  match k, hk with
  | 0, _ =>
    go_enter Tryz.func220, Tryz.ntmps220
    go_wp2_with fail
    go_ret
    exact ⟨rfl, hal _ _, hst (signsK 0) _⟩
  | 1, _ =>
    go_enter Tryz.func220, Tryz.ntmps220
    go_wp2_with fail
    go_ret
    exact ⟨rfl, hal _ _, hst (signsK 1) _⟩
  | 2, _ =>
    go_enter Tryz.func220, Tryz.ntmps220
    go_wp2_with fail
    go_ret
    exact ⟨rfl, hal _ _, hst (signsK 2) _⟩
  | 3, _ =>
    go_enter Tryz.func220, Tryz.ntmps220
    go_wp2_with fail
    go_ret
    exact ⟨rfl, hal _ _, hst (signsK 3) _⟩
  | 4, _ =>
    go_enter Tryz.func220, Tryz.ntmps220
    go_wp2_with fail
    go_ret
    exact ⟨rfl, hal _ _, hst (signsK 4) _⟩

theorem signsK_len6 (k : Nat) (hk : k < 5) : (signsK k).length ≤ 6 := by
  match k, hk with
  | 0, _ => decide
  | 1, _ => decide
  | 2, _ => decide
  | 3, _ => decide
  | 4, _ => decide
set_option maxHeartbeats 4000000 in
set_option maxRecDepth 100000 in
theorem rlevel_any27 (s : List UInt8) (w : World) : Calls Tryz.prog 190 #[.string ⟨s.toArray⟩] w fun e w' => e = .returned (.int .i64 ((levelS s : Int) - 1)) ∧ Below w.heap.size w w' := by
  obtain ⟨L, hL⟩ : ∃ L, levelS s = L := ⟨_, rfl⟩
  rw [hL]
  have HL := Lib.hid hL
  clear hL
  go_enter Tryz.func190, Tryz.ntmps190
  go_wp2_with fail
  go_loopw [3] (fun v wx => ∃ i : Nat, v = .int .i64 i ∧ i ≤ 5 ∧ Below w.heap.size w wx ∧ Hid (∀ k, k < i → s ∉ signsK k)) (fun v _ => 5 - (RowKit.intOf v).toNat)
  case atStart => exact ⟨0, rfl, by omega, Below.refl _ _, fun k hk => by omega⟩
  case round =>
    obtain ⟨i, rfl, hi, hb, hf⟩ := hrel
    by_cases hlt : i < 5
    · have c1 := rsigns_any i hlt wr
      have hlen := signsK_len6 i hlt
      obtain ⟨l, hl⟩ : ∃ l, signsK i = l := ⟨_, rfl⟩
      unfold SgEnd at c1
      rw [hl] at c1 hlen
      have HLs := Lib.hid hl
      obtain ⟨n, hn⟩ : ∃ n, l.length = n := ⟨_, rfl⟩
      rw [hn] at c1 hlen
      have HN := Lib.hid hn
      have hb5 : (i : Int) < 5 := by omega
      have Qi : IntKind.i64.wrap ((i : Int) + 1) = (i : Int) + 1 := IntWalk.i64_in _ (by omega)
      clear hl hn
      go_wp2_with fail
      refine c1.mono ?_
      clear c1
      rintro e w2 ⟨rfl, hb2, hst⟩
      have HST := Lib.hid hst
      have HB2 := Lib.hid (tr hb hb2)
      clear hst hb2 hb
      generalize wr.heap.size = g at *
      go_wp2_with fail
      go_loopw [5] (fun v wx => ∃ j : Nat, v = .int .i64 j ∧ j ≤ n ∧ wx = w2 ∧ Hid (s ∉ l.take j)) (fun v _ => n - (RowKit.intOf v).toNat)
      case atStart => exact ⟨0, rfl, Nat.zero_le _, rfl, by simp [Hid]⟩
      case round =>
        obtain ⟨j, rfl, hj, rfl, hs⟩ := hrel
        by_cases hjn : j < n
        · obtain ⟨u, hu⟩ : ∃ u, l[j]? = some u := ⟨l[j]'(by have := HN.out; omega), List.getElem?_eq_getElem _⟩
          have k := HST.out j u hu
          rw [Nat.zero_add] at k
          have Qj : IntKind.i64.wrap ((j : Int) + 1) = (j : Int) + 1 := IntWalk.i64_in _ (by omega)
          have hjn' : (j : Int) < (n : Int) := by omega
          by_cases he : u = s
          · subst he
            have hm : Hid (L = i + 1) := by
              have h1 := levelS_at hlt hf.out (by rw [HLs.out]; exact List.mem_of_getElem? hu)
              exact HL.out.symm.trans h1
            clear hu hs
            go_wp2_with fail
            go_ret
            refine ⟨?_, HB2.out⟩
            rw [hm.out, show (((i + 1 : Nat) : Int) - 1) = (i : Int) by omega]
            rfl
          · have Q := str_ne he
            have hs2 : Hid (s ∉ l.take (j + 1)) := by
              show s ∉ _
              rw [List.take_add_one, hu]
              simp only [List.mem_append, not_or]
              exact ⟨hs.out, by simpa using fun h => he h.symm⟩
            clear hu hs he
            go_wp2_with fail
            go_roundw
            case rel => exact ⟨j + 1, by go_num, by omega, trivial, hs2⟩
            case measure => simp [RowKit.intOf]; omega
        · have hf2 : Hid (∀ k, k < i + 1 → s ∉ signsK k) := fun k hk => by
            by_cases e : k = i
            · subst e
              rw [HLs.out]
              have := hs.out
              rwa [List.take_of_length_le (by have := HN.out; omega)] at this
            · exact hf.out k (by omega)
          have hjn' : ¬ (j : Int) < (n : Int) := by omega
          clear hs hf
          go_wp2_with fail
          go_roundw
          case rel => exact ⟨i + 1, by go_num, by omega, HB2.out, hf2⟩
          case measure => simp [RowKit.intOf]; omega
    · have hf2 : Hid (L = 0) := by
        have h1 := levelS_no (s := s) (fun k hk => hf.out k (by omega))
        exact HL.out.symm.trans h1
      have hb5 : ¬ (i : Int) < 5 := by omega
      clear hf
      go_wp2_with fail
      go_ret
      exact ⟨by rw [hf2.out]; rfl, hb⟩
end Go.Proofs.YtpbkeamjdolpgaaGreatDoor
namespace Go.Proofs.YtpbkeamjdolpgaaGreatDoor
open Go.RowKit Go.Lib Go.Shelf Go.Sort

/-- A node's own block. -/
structure NdBox (w : World) (b : Nat) (k : Int) (n : List UInt8) (y : Option Addr) (m c : Nat) (p : Int) : Prop where
  c0 : w.cell? ⟨b, 0, none⟩ = some (.int .i64 k)
  c1 : w.cell? ⟨b, 1, none⟩ = some (.string ⟨n.toArray⟩)
  c2 : w.cell? ⟨b, 2, none⟩ = some (.slice y m c)
  c3 : w.cell? ⟨b, 3, none⟩ = some (.int .i64 p)
theorem NdBox.new (w : World) (k : Int) (n : List UInt8) (y : Option Addr) (m c : Nat) (p : Int) : NdBox (w.alloc (ndO k n y m c p)) w.heap.size k n y m c p := by
  have hf := (Box4.new w (.int .i64 k) (.string ⟨n.toArray⟩) (.slice y m c) (.int .i64 p)).facts
  exact ⟨hf.1, hf.2.1, hf.2.2.1, hf.2.2.2.1⟩
theorem NdBox.below {w w' : World} {b : Nat} {k : Int} {n : List UInt8} {y : Option Addr} {m c : Nat} {p : Int} (h : NdBox w b k n y m c p) (hb : Below w.heap.size w w') : NdBox w' b k n y m c p := by
  have hk := World.block_lt_of_cell? w _ h.c0
  exact ⟨(hb.cell (p := ⟨b, 0, none⟩) hk).trans h.c0, (hb.cell (p := ⟨b, 1, none⟩) hk).trans h.c1, (hb.cell (p := ⟨b, 2, none⟩) hk).trans h.c2, (hb.cell (p := ⟨b, 3, none⟩) hk).trans h.c3⟩
theorem NdAt.mono_below {w w' : World} {ok : Nat → Prop} {x : Nd} {b o : Nat} (h : NdAt w ok x b o) (hb : Below w.heap.size w w') : NdAt w' ok x b o := NdAt.mono (fun _ h _ => h) (fun k _ hk => hb.block k hk) x b o h
/-- A node of arguments. -/
def argR (x : Nd) : Bool := decide (x.kind = 8) && partR x
set_option maxHeartbeats 4000000 in
set_option maxRecDepth 100000 in
theorem rall_any (ok : Nat → Prop) (l : List Nd) (n : Nat) (hl : l.length = n) (hn : n < 2 ^ 62) (y : Option Addr) (c : Nat) (w : World) (hrow : NdRow w ok l y) (h : ∀ x ∈ l, OneQ 154 [] ok exR w x) :
    Calls Tryz.prog 193 #[.slice y n c] w (Yes (exsR l) w) := by
  have HROW := Lib.hid hrow
  have HL := Lib.hid hl
  have HH := Lib.hid h
  obtain ⟨R, hR⟩ : ∃ R, exsR l = R := ⟨_, rfl⟩
  have HR : Hid (R = l.all exR) := by
    show R = _
    rw [← hR, exsR_all]
  rw [hR]
  clear h hl hrow hR
  go_enter Tryz.func193, Tryz.ntmps193
  go_wp2_with fail
  go_loopw [3] (fun v wx => ∃ i : Nat, v = .int .i64 i ∧ i ≤ n ∧ Below w.heap.size w wx ∧ Hid ((l.take i).all exR = true)) (fun v _ => n - (intOf v).toNat)
  case atStart => exact ⟨0, rfl, Nat.zero_le _, Below.refl _ _, by simp [Hid]⟩
  case round =>
    obtain ⟨i, rfl, hi, hb, hf⟩ := hrel
    by_cases hlt : i < n
    · obtain ⟨u, hu⟩ : ∃ u, l[i]? = some u := ⟨l[i]'(by have := HL.out; omega), List.getElem?_eq_getElem _⟩
      obtain ⟨B, o, rfl, hat⟩ := (HROW.out.below hb).at_ hu
      obtain ⟨k, nm, z, kids, cc, p, rfl, x0, x1, x2, x3, hk⟩ := hat.val
      have c1 := HH.out _ (List.mem_of_getElem? hu) (.agg #[.int .i64 k, .string ⟨nm.toArray⟩, .slice z kids.length cc, .int .i64 p]) wr hb ⟨z, cc, rfl, hk⟩
      have HN : Hid ((l.take (i + 1)).all exR = exR (.mk k nm kids p)) := by
        show _ = _
        rw [List.take_add_one, hu, List.all_append, hf.out]
        simp
      have HA : Hid (exR (.mk k nm kids p) = false → R = false) := fun ht => by
        rw [HR.out]
        exact List.all_eq_false.2 ⟨_, List.mem_of_getElem? hu, by simpa using ht⟩
      have hlt' : (i : Int) < (n : Int) := by omega
      have Qi : IntKind.i64.wrap ((i : Int) + 1) = (i : Int) + 1 := IntWalk.i64_in _ (by omega)
      simp only [List.append_toArray, List.cons_append, List.nil_append] at c1
      cases hB : exR (.mk k nm kids p)
      · rw [hB] at c1
        have HB := Lib.hid hB
        clear hu hf hB hk hat HN
        go_wp2_with fail
        refine c1.mono ?_
        clear c1
        rintro e w1 ⟨rfl, hb1⟩
        go_wp2_with fail
        go_ret
        exact ⟨by rw [HA.out HB.out]; rfl, tr hb hb1⟩
      · rw [hB] at c1
        have HB := Lib.hid hB
        clear hu hf hB hk hat HA
        go_wp2_with fail
        refine c1.mono ?_
        clear c1
        rintro e w1 ⟨rfl, hb1⟩
        go_wp2_with fail
        go_roundw
        case rel => exact ⟨i + 1, by go_num, by omega, tr hb hb1, by rw [HN.out, HB.out]; rfl⟩
        case measure => simp [intOf]; omega
    · have HM : Hid (R = true) := by
        show R = true
        rw [HR.out]
        have := hf.out
        rwa [List.take_of_length_le (by have := HL.out; omega)] at this
      have hlt' : ¬ (i : Int) < (n : Int) := by omega
      clear hf
      go_wp2_with fail
      go_ret
      exact ⟨by rw [HM.out]; rfl, hb⟩

section
variable (ok : Nat → Prop) (w0 : World) (n : List UInt8) (kids : List Nd) (p : Int) (hw : wtL kids + n.length < 2 ^ 40) (hG : Gl w0) (h : ∀ x ∈ kids, OneQ 154 [] ok exR w0 x ∧ OneQ 157 [] ok argR w0 x)
set_option maxHeartbeats 4000000 in
set_option maxRecDepth 100000 in
include hw h in
theorem rargs_any27 (k : Int) : OneQ 157 [] ok argR w0 (.mk k n kids p) := by
  intro v w1 hb hv
  obtain ⟨y, c, rfl, hrow⟩ := hv
  have hlen := len_wtL kids
  have hE : argR (.mk k n kids p) = (decide (k = 8) && n.isEmpty && exsR kids) := by
    show (decide (k = 8) && partR (.mk k n kids p)) = _
    rw [partR]
    by_cases h8 : k = 8
    · subst h8
      rfl
    · simp [h8]
  obtain ⟨R, hR⟩ : ∃ R, argR (.mk k n kids p) = R := ⟨_, rfl⟩
  rw [hR] at hE ⊢
  have HR := Lib.hid hE
  show Calls _ _ _ _ (Yes _ w1)
  simp only [List.append_toArray, List.cons_append, List.nil_append]
  have hA : Below w1.heap.size w1 (w1.alloc (ndO k n y kids.length c p)) := (Below.refl _ _).alloc (Nat.le_refl _) _
  have B0 := Lib.hid (NdBox.new w1 k n y kids.length c p)
  have HA := Lib.hid hA
  have C1 : Hid (∀ W, Below (w1.alloc (ndO k n y kids.length c p)).heap.size (w1.alloc (ndO k n y kids.length c p)) W → Calls Tryz.prog 193 #[.slice y kids.length c] W (Yes (exsR kids) W)) := fun W hW =>
    rall_any ok kids kids.length rfl (by omega) y c W ((hrow.below hA).below hW) (fun x hx => (((h x hx).1.below hb).below hA).below hW)
  obtain ⟨m, hm⟩ : ∃ m, kids.length = m := ⟨_, rfl⟩
  rw [hm] at B0 HA C1 ⊢
  unfold ndO at B0 HA C1
  obtain ⟨B, hB⟩ : ∃ B, exsR kids = B := ⟨_, rfl⟩
  rw [hB] at C1 HR
  clear hrow hb hA hw hE hm hlen hR hB h
  go_enter Tryz.func157, Tryz.ntmps157
  go_wp2_with fail
  generalize w1.alloc (.cells #[.int .i64 k, .string ⟨n.toArray⟩, .slice y m c, .int .i64 p] 53) = wA at *

  refine (C1.out _ (Below.refl _ _)).mono ?_
  rintro e w2 ⟨rfl, hb2⟩
  obtain ⟨x0, x1, x2, x3⟩ := B0.out.below hb2
  have HB2 := Lib.hid hb2
  clear C1 hb2
  by_cases h8 : k = 8
  · subst h8
    by_cases hq : n = []
    · subst hq
      have HR2 : Hid (R = B) := by
        show R = B
        rw [HR.out]
        rfl
      clear HR
      go_wp2_with fail
      go_ret
      exact ⟨by rw [HR2.out]; rfl, tr HA.out HB2.out⟩
    · have Q : (n == []) = false := str_ne hq
      have HR2 : Hid (R = false) := by
        show R = false
        rw [HR.out]
        simp [hq]
      clear hq HR
      go_wp2_with fail
      go_ret
      exact ⟨by rw [HR2.out]; rfl, tr HA.out HB2.out⟩
  · have Q : (k == 8) = false := beq_eq_false_iff_ne.2 h8
    have HR2 : Hid (R = false) := by
      show R = false
      rw [HR.out]
      simp [h8]
    clear h8 HR
    go_wp2_with fail
    go_ret
    exact ⟨by rw [HR2.out]; rfl, tr HA.out HB2.out⟩
end
end Go.Proofs.YtpbkeamjdolpgaaGreatDoor
namespace Go.Proofs.YtpbkeamjdolpgaaGreatDoor
open Go.RowKit Go.Lib Go.Shelf Go.Sort

section
variable (ok : Nat → Prop) (w0 : World) (n : List UInt8) (kids : List Nd) (p : Int) (hw : wtL kids + n.length < 2 ^ 40) (hG : Gl w0) (h : ∀ x ∈ kids, OneQ 154 [] ok exR w0 x ∧ OneQ 157 [] ok argR w0 x)
set_option maxHeartbeats 4000000 in
set_option maxRecDepth 100000 in
include hw hG in
theorem rex9 : OneQ 154 [] ok exR w0 (.mk 9 n kids p) := by
  intro v w1 hb hv
  obtain ⟨y, c, rfl, hrow⟩ := hv
  have hlen := len_wtL kids
  have hE : exR (.mk 9 n kids p) = (numR n && decide (kids.length = 0)) := by
    rw [exR_eq]
    cases kids <;> simp
  obtain ⟨R, hR⟩ : ∃ R, exR (.mk 9 n kids p) = R := ⟨_, rfl⟩
  rw [hR] at hE ⊢
  have HR := Lib.hid hE
  show Calls _ _ _ _ (Yes _ w1)
  simp only [List.append_toArray, List.cons_append, List.nil_append]
  have hA : Below w1.heap.size w1 (w1.alloc (ndO 9 n y kids.length c p)) := (Below.refl _ _).alloc (Nat.le_refl _) _
  have B0 := Lib.hid (NdBox.new w1 9 n y kids.length c p)
  have HA := Lib.hid hA
  have C1 : Hid (∀ W, Below (w1.alloc (ndO 9 n y kids.length c p)).heap.size (w1.alloc (ndO 9 n y kids.length c p)) W → Calls Tryz.prog 192 #[.string ⟨n.toArray⟩] W (Yes (numR n) W)) := fun W hW =>
    rnumber_any27 n W (((hG.below hb).below hA).below hW)

  obtain ⟨m, hm⟩ : ∃ m, kids.length = m := ⟨_, rfl⟩
  try rw [hm] at hlen
  try rw [hm] at HR
  try rw [hm] at hE
  rw [hm] at B0 HA C1 ⊢
  have HM : Hid (m < 2 ^ 40) := by
    show m < 2 ^ 40
    omega
  unfold ndO at B0 HA C1 
  obtain ⟨B, hB⟩ : ∃ B, numR n = B := ⟨_, rfl⟩
  rw [hB] at C1 HR
  clear hrow hb hA hw hE hG hm hlen hR hB
  go_enter Tryz.func154, Tryz.ntmps154
  go_wp2_with fail
  generalize w1.alloc (.cells #[.int .i64 9, .string ⟨n.toArray⟩, .slice y m c, .int .i64 p] 53) = wA at *

  refine (C1.out _ (Below.refl _ _)).mono ?_
  rintro e w2 ⟨rfl, hb2⟩
  obtain ⟨x0, x1, x2, x3⟩ := B0.out.below hb2
  have HB2 := Lib.hid hb2
  clear C1 hb2
  by_cases hq : m = 0
  · have Q : ((m : Int) == 0) = true := by simp; omega
    have HR2 : Hid (R = B) := by
      show R = B
      rw [HR.out]
      simp [hq]
    clear hq HR
    go_wp2_with fail
    go_ret
    exact ⟨by rw [HR2.out]; rfl, tr HA.out HB2.out⟩
  · have Q : ((m : Int) == 0) = false := beq_eq_false_iff_ne.2 (by omega)
    have HR2 : Hid (R = false) := by
      show R = false
      rw [HR.out]
      simp [hq]
    clear hq HR
    go_wp2_with fail
    go_ret
    exact ⟨by rw [HR2.out]; rfl, tr HA.out HB2.out⟩

set_option maxHeartbeats 4000000 in
set_option maxRecDepth 100000 in
include hw hG in
theorem rex10 : OneQ 154 [] ok exR w0 (.mk 10 n kids p) := by
  intro v w1 hb hv
  obtain ⟨y, c, rfl, hrow⟩ := hv
  have hlen := len_wtL kids
  have hE : exR (.mk 10 n kids p) = (plainR n && decide (kids.length = 0)) := by
    rw [exR_eq]
    cases kids <;> simp
  obtain ⟨R, hR⟩ : ∃ R, exR (.mk 10 n kids p) = R := ⟨_, rfl⟩
  rw [hR] at hE ⊢
  have HR := Lib.hid hE
  show Calls _ _ _ _ (Yes _ w1)
  simp only [List.append_toArray, List.cons_append, List.nil_append]
  have hA : Below w1.heap.size w1 (w1.alloc (ndO 10 n y kids.length c p)) := (Below.refl _ _).alloc (Nat.le_refl _) _
  have B0 := Lib.hid (NdBox.new w1 10 n y kids.length c p)
  have HA := Lib.hid hA
  have C1 : Hid (∀ W, Below (w1.alloc (ndO 10 n y kids.length c p)).heap.size (w1.alloc (ndO 10 n y kids.length c p)) W → Calls Tryz.prog 153 #[.string ⟨n.toArray⟩] W (Yes (plainR n) W)) := fun W hW =>
    rplain_any n W (by omega) (((hG.below hb).below hA).below hW)

  obtain ⟨m, hm⟩ : ∃ m, kids.length = m := ⟨_, rfl⟩
  try rw [hm] at hlen
  try rw [hm] at HR
  try rw [hm] at hE
  rw [hm] at B0 HA C1 ⊢
  have HM : Hid (m < 2 ^ 40) := by
    show m < 2 ^ 40
    omega
  unfold ndO at B0 HA C1 
  obtain ⟨B, hB⟩ : ∃ B, plainR n = B := ⟨_, rfl⟩
  rw [hB] at C1 HR
  clear hrow hb hA hw hE hG hm hlen hR hB
  go_enter Tryz.func154, Tryz.ntmps154
  go_wp2_with fail
  generalize w1.alloc (.cells #[.int .i64 10, .string ⟨n.toArray⟩, .slice y m c, .int .i64 p] 53) = wA at *

  refine (C1.out _ (Below.refl _ _)).mono ?_
  rintro e w2 ⟨rfl, hb2⟩
  obtain ⟨x0, x1, x2, x3⟩ := B0.out.below hb2
  have HB2 := Lib.hid hb2
  clear C1 hb2
  by_cases hq : m = 0
  · have Q : ((m : Int) == 0) = true := by simp; omega
    have HR2 : Hid (R = B) := by
      show R = B
      rw [HR.out]
      simp [hq]
    clear hq HR
    go_wp2_with fail
    go_ret
    exact ⟨by rw [HR2.out]; rfl, tr HA.out HB2.out⟩
  · have Q : ((m : Int) == 0) = false := beq_eq_false_iff_ne.2 (by omega)
    have HR2 : Hid (R = false) := by
      show R = false
      rw [HR.out]
      simp [hq]
    clear hq HR
    go_wp2_with fail
    go_ret
    exact ⟨by rw [HR2.out]; rfl, tr HA.out HB2.out⟩

set_option maxHeartbeats 4000000 in
set_option maxRecDepth 100000 in
include hw h in
theorem rex11 : OneQ 154 [] ok exR w0 (.mk 11 n kids p) := by
  intro v w1 hb hv
  obtain ⟨y, c, rfl, hrow⟩ := hv
  have hlen := len_wtL kids
  have hE : exR (.mk 11 n kids p) = (n.isEmpty && exsR kids) := by
    rw [exR_eq]
    rfl
  obtain ⟨R, hR⟩ : ∃ R, exR (.mk 11 n kids p) = R := ⟨_, rfl⟩
  rw [hR] at hE ⊢
  have HR := Lib.hid hE
  show Calls _ _ _ _ (Yes _ w1)
  simp only [List.append_toArray, List.cons_append, List.nil_append]
  have hA : Below w1.heap.size w1 (w1.alloc (ndO 11 n y kids.length c p)) := (Below.refl _ _).alloc (Nat.le_refl _) _
  have B0 := Lib.hid (NdBox.new w1 11 n y kids.length c p)
  have HA := Lib.hid hA
  have C1 : Hid (∀ W, Below (w1.alloc (ndO 11 n y kids.length c p)).heap.size (w1.alloc (ndO 11 n y kids.length c p)) W → Calls Tryz.prog 193 #[.slice y kids.length c] W (Yes (exsR kids) W)) := fun W hW =>
    rall_any ok kids kids.length rfl (by omega) y c W ((hrow.below hA).below hW) (fun x hx => (((h x hx).1.below hb).below hA).below hW)

  obtain ⟨m, hm⟩ : ∃ m, kids.length = m := ⟨_, rfl⟩
  try rw [hm] at hlen
  try rw [hm] at HR
  try rw [hm] at hE
  rw [hm] at B0 HA C1 ⊢
  have HM : Hid (m < 2 ^ 40) := by
    show m < 2 ^ 40
    omega
  unfold ndO at B0 HA C1 
  obtain ⟨B, hB⟩ : ∃ B, exsR kids = B := ⟨_, rfl⟩
  rw [hB] at C1 HR
  clear hrow hb hA hw hE hm hlen hR hB h
  go_enter Tryz.func154, Tryz.ntmps154
  go_wp2_with fail
  generalize w1.alloc (.cells #[.int .i64 11, .string ⟨n.toArray⟩, .slice y m c, .int .i64 p] 53) = wA at *

  refine (C1.out _ (Below.refl _ _)).mono ?_
  rintro e w2 ⟨rfl, hb2⟩
  obtain ⟨x0, x1, x2, x3⟩ := B0.out.below hb2
  have HB2 := Lib.hid hb2
  clear C1 hb2
  by_cases hq : n = []
  · subst hq
    have HR2 : Hid (R = B) := by
      show R = B
      rw [HR.out]
      rfl
    clear HR
    go_wp2_with fail
    go_ret
    exact ⟨by rw [HR2.out]; rfl, tr HA.out HB2.out⟩
  · have Q : (n == []) = false := str_ne hq
    have HR2 : Hid (R = false) := by
      show R = false
      rw [HR.out]
      simp [hq]
    clear hq HR
    go_wp2_with fail
    go_ret
    exact ⟨by rw [HR2.out]; rfl, tr HA.out HB2.out⟩

set_option maxHeartbeats 4000000 in
set_option maxRecDepth 100000 in
include hw h in
theorem rex14 : OneQ 154 [] ok exR w0 (.mk 14 n kids p) := by
  intro v w1 hb hv
  obtain ⟨y, c, rfl, hrow⟩ := hv
  have hlen := len_wtL kids
  have hE : exR (.mk 14 n kids p) = (n.isEmpty && decide (kids.length = 2) && exsR kids) := by
    rw [exR_eq]
    rfl
  obtain ⟨R, hR⟩ : ∃ R, exR (.mk 14 n kids p) = R := ⟨_, rfl⟩
  rw [hR] at hE ⊢
  have HR := Lib.hid hE
  show Calls _ _ _ _ (Yes _ w1)
  simp only [List.append_toArray, List.cons_append, List.nil_append]
  have hA : Below w1.heap.size w1 (w1.alloc (ndO 14 n y kids.length c p)) := (Below.refl _ _).alloc (Nat.le_refl _) _
  have B0 := Lib.hid (NdBox.new w1 14 n y kids.length c p)
  have HA := Lib.hid hA
  have C1 : Hid (∀ W, Below (w1.alloc (ndO 14 n y kids.length c p)).heap.size (w1.alloc (ndO 14 n y kids.length c p)) W → Calls Tryz.prog 193 #[.slice y kids.length c] W (Yes (exsR kids) W)) := fun W hW =>
    rall_any ok kids kids.length rfl (by omega) y c W ((hrow.below hA).below hW) (fun x hx => (((h x hx).1.below hb).below hA).below hW)

  obtain ⟨m, hm⟩ : ∃ m, kids.length = m := ⟨_, rfl⟩
  try rw [hm] at hlen
  try rw [hm] at HR
  try rw [hm] at hE
  rw [hm] at B0 HA C1 ⊢
  have HM : Hid (m < 2 ^ 40) := by
    show m < 2 ^ 40
    omega
  unfold ndO at B0 HA C1 
  obtain ⟨B, hB⟩ : ∃ B, exsR kids = B := ⟨_, rfl⟩
  rw [hB] at C1 HR
  clear hrow hb hA hw hE hm hlen hR hB h
  go_enter Tryz.func154, Tryz.ntmps154
  go_wp2_with fail
  generalize w1.alloc (.cells #[.int .i64 14, .string ⟨n.toArray⟩, .slice y m c, .int .i64 p] 53) = wA at *

  refine (C1.out _ (Below.refl _ _)).mono ?_
  rintro e w2 ⟨rfl, hb2⟩
  obtain ⟨x0, x1, x2, x3⟩ := B0.out.below hb2
  have HB2 := Lib.hid hb2
  clear C1 hb2
  by_cases hq : n = []
  · subst hq
    by_cases hl : m = 2
    · have Q : ((m : Int) == 2) = true := by simp; omega
      have HR2 : Hid (R = B) := by
        show R = B
        rw [HR.out]
        simp [hl]
      clear HR hl
      go_wp2_with fail
      go_ret
      exact ⟨by rw [HR2.out]; rfl, tr HA.out HB2.out⟩
    · have Q : ((m : Int) == 2) = false := beq_eq_false_iff_ne.2 (by omega)
      have HR2 : Hid (R = false) := by
        show R = false
        rw [HR.out]
        simp [hl]
      clear HR hl
      go_wp2_with fail
      go_ret
      exact ⟨by rw [HR2.out]; rfl, tr HA.out HB2.out⟩
  · have Q : (n == []) = false := str_ne hq
    have HR2 : Hid (R = false) := by
      show R = false
      rw [HR.out]
      simp [hq]
    clear hq HR
    go_wp2_with fail
    go_ret
    exact ⟨by rw [HR2.out]; rfl, tr HA.out HB2.out⟩

set_option maxHeartbeats 4000000 in
set_option maxRecDepth 100000 in
include hw h in
theorem rex15 : OneQ 154 [] ok exR w0 (.mk 15 n kids p) := by
  intro v w1 hb hv
  obtain ⟨y, c, rfl, hrow⟩ := hv
  have hlen := len_wtL kids
  have hE : exR (.mk 15 n kids p) = (n.isEmpty && decide (kids.length = 3) && exsR kids) := by
    rw [exR_eq]
    rfl
  obtain ⟨R, hR⟩ : ∃ R, exR (.mk 15 n kids p) = R := ⟨_, rfl⟩
  rw [hR] at hE ⊢
  have HR := Lib.hid hE
  show Calls _ _ _ _ (Yes _ w1)
  simp only [List.append_toArray, List.cons_append, List.nil_append]
  have hA : Below w1.heap.size w1 (w1.alloc (ndO 15 n y kids.length c p)) := (Below.refl _ _).alloc (Nat.le_refl _) _
  have B0 := Lib.hid (NdBox.new w1 15 n y kids.length c p)
  have HA := Lib.hid hA
  have C1 : Hid (∀ W, Below (w1.alloc (ndO 15 n y kids.length c p)).heap.size (w1.alloc (ndO 15 n y kids.length c p)) W → Calls Tryz.prog 193 #[.slice y kids.length c] W (Yes (exsR kids) W)) := fun W hW =>
    rall_any ok kids kids.length rfl (by omega) y c W ((hrow.below hA).below hW) (fun x hx => (((h x hx).1.below hb).below hA).below hW)

  obtain ⟨m, hm⟩ : ∃ m, kids.length = m := ⟨_, rfl⟩
  try rw [hm] at hlen
  try rw [hm] at HR
  try rw [hm] at hE
  rw [hm] at B0 HA C1 ⊢
  have HM : Hid (m < 2 ^ 40) := by
    show m < 2 ^ 40
    omega
  unfold ndO at B0 HA C1 
  obtain ⟨B, hB⟩ : ∃ B, exsR kids = B := ⟨_, rfl⟩
  rw [hB] at C1 HR
  clear hrow hb hA hw hE hm hlen hR hB h
  go_enter Tryz.func154, Tryz.ntmps154
  go_wp2_with fail
  generalize w1.alloc (.cells #[.int .i64 15, .string ⟨n.toArray⟩, .slice y m c, .int .i64 p] 53) = wA at *

  refine (C1.out _ (Below.refl _ _)).mono ?_
  rintro e w2 ⟨rfl, hb2⟩
  obtain ⟨x0, x1, x2, x3⟩ := B0.out.below hb2
  have HB2 := Lib.hid hb2
  clear C1 hb2
  by_cases hq : n = []
  · subst hq
    by_cases hl : m = 3
    · have Q : ((m : Int) == 3) = true := by simp; omega
      have HR2 : Hid (R = B) := by
        show R = B
        rw [HR.out]
        simp [hl]
      clear HR hl
      go_wp2_with fail
      go_ret
      exact ⟨by rw [HR2.out]; rfl, tr HA.out HB2.out⟩
    · have Q : ((m : Int) == 3) = false := beq_eq_false_iff_ne.2 (by omega)
      have HR2 : Hid (R = false) := by
        show R = false
        rw [HR.out]
        simp [hl]
      clear HR hl
      go_wp2_with fail
      go_ret
      exact ⟨by rw [HR2.out]; rfl, tr HA.out HB2.out⟩
  · have Q : (n == []) = false := str_ne hq
    have HR2 : Hid (R = false) := by
      show R = false
      rw [HR.out]
      simp [hq]
    clear hq HR
    go_wp2_with fail
    go_ret
    exact ⟨by rw [HR2.out]; rfl, tr HA.out HB2.out⟩
end
end Go.Proofs.YtpbkeamjdolpgaaGreatDoor
