/- The reference's walk of a tree (scope): how it goes on from event to event. The reference's walk of a tree (scope): its expressions. The reference's walk of a tree (scope): expressions of any size; parameters. The reference's walk of a tree (scope): blocks, by their statements. The reference's walk of a tree (scope): one step behind another. The reference's walk of a tree (scope): its statements. The reference's walk of a tree (scope): definitions of functions and modules. The reference's walk of a tree (scope): a module's call. The reference's walk of a tree (scope): statements of any size; a whole text. The walk of the reference's Tokens. The walks of the reference's Reserved, plain, number, signs, Level. The walks of the reference's all, arguments, expression. The walks of the reference's expression: numbers, names, lists, indices, picks. -/
import Derived.Test.YtpbkeamjdolpgaaGreatDoorZa04
import Derived.Deep.Cut
import Derived.StillTailTactics
import Derived.Test.YtpbkeamjdolpgaaGreatDoorZa02
import Derived.Test.YtpbkeamjdolpgaaGreatDoorZa01
namespace Go.Proofs.YtpbkeamjdolpgaaGreatDoor
open Go.RowKit Go.Lib

def RGo (Γ : RCtx) (w : World) (ρ : Env) (m : Nat) (F : FltR) (fr ca : List (List UInt8)) (ev : List Ev) (w' : World) : Prop := OwR Γ w w' ∧ ∃ fr' ca', RW Γ w' (defsE ρ) (depthE ρ) m (F.or (wrongE ev)) fr' ca' ∧
  fr'.length ≤ fr.length + ev.length ∧ ca'.length ≤ ca.length + ev.length ∧ (Γ.all = true → fr' = (missE ev).foldl putS fr ∧ ca' = (calledE ev).foldl putS ca)
def onR (Γ : RCtx) (F : FltR) : Bool := Γ.all || F.isNone
section
variable {Γ : RCtx} {w w1 w2 : World} {ρ ρ1 : Env} {m m1 : Nat} {F : FltR} {fr ca fr1 ca1 : List (List UInt8)} {e1 e2 : List Ev}
theorem RGo.start (ho : OwR Γ w w1) (h1 : RW Γ w1 (defsE ρ) (depthE ρ) m F fr ca) : RGo Γ w ρ m F fr ca [] w1 :=
  ⟨ho, fr, ca, by simpa [wrongE] using h1, by simp, by simp, fun _ => ⟨rfl, rfl⟩⟩
theorem RGo.comp (ho : OwR Γ w w1) (l1 : fr1.length ≤ fr.length + e1.length) (l2 : ca1.length ≤ ca.length + e1.length) (ha : Γ.all = true → fr1 = (missE e1).foldl putS fr ∧ ca1 = (calledE e1).foldl putS ca)
    (h : RGo Γ w1 ρ1 m1 (F.or (wrongE e1)) fr1 ca1 e2 w2) : RGo Γ w ρ1 m1 F fr ca (e1 ++ e2) w2 := by
  obtain ⟨h1, fr2, ca2, h2, h3, h4, h5⟩ := h
  refine ⟨ho.trans h1, fr2, ca2, ?_, ?_, ?_, fun hA => ?_⟩
  · rw [wrongE_app, ← Option.or_assoc]
    exact h2
  · rw [List.length_append]
    omega
  · rw [List.length_append]
    omega
  · obtain ⟨a1, a2⟩ := ha hA
    obtain ⟨b1, b2⟩ := h5 hA
    rw [missE_app, calledE_app, List.foldl_append, List.foldl_append, ← a1, ← a2]
    exact ⟨b1, b2⟩
theorem RGo.skip (h : RGo Γ w ρ m F fr ca e1 w1) (hn : onR Γ (F.or (wrongE e1)) = false) (e2 : List Ev) : RGo Γ w ρ m F fr ca (e1 ++ e2) w1 := by
  obtain ⟨h1, fr2, ca2, h2, h3, h4, h5⟩ := h
  unfold onR at hn
  rw [Bool.or_eq_false_iff] at hn
  refine ⟨h1, fr2, ca2, ?_, ?_, ?_, fun hA => by rw [hn.1] at hA; cases hA⟩
  · rw [wrongE_app, ← Option.or_assoc]
    cases hF : F.or (wrongE e1) with
    | none => rw [hF] at hn; cases hn.2
    | some x =>
      rw [hF] at h2
      exact h2
  · rw [List.length_append]
    omega
  · rw [List.length_append]
    omega
theorem RGo.own (h : RGo Γ w ρ m F fr ca e1 w1) : OwR Γ w w1 := h.1
theorem RGo.call (ho : OwR Γ w w1) {s : List UInt8} (h : RW Γ w1 (defsE ρ) (depthE ρ) m F fr (putS ca s)) : RGo Γ w ρ m F fr ca [.call s] w1 :=
  ⟨ho, fr, putS ca s, by simpa [wrongE] using h, by simp, by have := putS_len ca s; simpa using this, fun _ => ⟨rfl, rfl⟩⟩
theorem RGo.miss (ho : OwR Γ w w1) {s : List UInt8} {p : Int} (h : RW Γ w1 (defsE ρ) (depthE ρ) m (F.or (some (280, s, p))) (putS fr s) ca) : RGo Γ w ρ m F fr ca [.miss s p] w1 :=
  ⟨ho, putS fr s, ca, h, by have := putS_len fr s; simpa using this, by simp, fun _ => ⟨rfl, rfl⟩⟩
theorem RGo.bad (ho : OwR Γ w w1) {c : Int} {s : List UInt8} {p : Int} (h : RW Γ w1 (defsE ρ) (depthE ρ) m (F.or (some (c, s, p))) fr ca) : RGo Γ w ρ m F fr ca [.bad c s p] w1 :=
  ⟨ho, fr, ca, h, by simp, by simp, fun _ => ⟨rfl, rfl⟩⟩
end
def ExprR (Γ : RCtx) (x : Nd) : Prop := ∀ (w : World) (ρ : Env) (m : Nat) (F : FltR) (fr ca : List (List UInt8)) (v : Value), NdVal w (fun b => b < Γ.B) x v → RW Γ w (defsE ρ) (depthE ρ) m F fr ca → Γ.B ≤ w.heap.size → (defsE ρ).length < 2 ^ 40 →
  fr.length + (evE ρ x).length < 2 ^ 40 → ca.length + (evE ρ x).length < 2 ^ 40 → Calls Tryz.prog 224 #[.pointer (some ⟨Γ.wb, 0, none⟩), v] w fun e w' => e = .returned (.tuple #[]) ∧ RGo Γ w ρ m F fr ca (evE ρ x) w'
theorem NdRow.owr {Γ : RCtx} {w w' : World} {l : List Nd} {y : Option Addr} (h : NdRow w (fun b => b < Γ.B) l y) (ho : OwR Γ w w') (hB : Γ.B ≤ Γ.wb) : NdRow w' (fun b => b < Γ.B) l y :=
  NdRow.mono (fun _ h _ => h) (fun k h1 h2 => ho.block k h2 (by omega) (.inl h1)) _ _ h
theorem Box4.owr {Γ : RCtx} {w w' : World} {b : Nat} {v0 v1 v2 v3 : Value} (h : Box4 w b v0 v1 v2 v3) (ho : OwR Γ w w') (hn : b ≠ Γ.wb) : Box4 w' b v0 v1 v2 v3 := ho.keep h (by decide) hn
end Go.Proofs.YtpbkeamjdolpgaaGreatDoor
namespace Go.Proofs.YtpbkeamjdolpgaaGreatDoor
open Go.RowKit Go.Lib

theorem RW.below {Γ : RCtx} {w w' : World} {D : List DefR} {dp m : Nat} {F : FltR} {fr ca : List (List UInt8)} (h : RW Γ w D dp m F fr ca) (hb : Below w.heap.size w w') : RW Γ w' D dp m F fr ca := by
  obtain ⟨dv, fp, fv, cv, h⟩ := h
  exact ⟨dv, fp, fv, cv, h.below hb⟩
theorem last_some (ρ : Env) (k : Nat) (n : List UInt8) : (lastD k n (defsE ρ)).isSome = (findE ρ k n false).isSome := by
  rw [← lastD_find ρ k n]
  cases lastD k n (defsE ρ) <;> rfl
set_option maxHeartbeats 4000000 in
set_option maxRecDepth 100000 in
theorem rexpr_step (Γ : RCtx) (k : Int) (n : List UInt8) (kids : List Nd) (p : Int) (hn : n.length < 2 ^ 40) (hk : kids.length < 2 ^ 40) (hr : k = 13 → kids ≠ []) (ih : ∀ x ∈ kids, ExprR Γ x) : ExprR Γ (.mk k n kids p) := by
  intro w ρ m F fr ca v hv h hB hD hf hc
  obtain ⟨y, cv, rfl, hrow⟩ := hv
  generalize cv.val = c
  clear cv
  have hA : Below w.heap.size w (w.alloc (.cells #[.int .i64 k, .string ⟨n.toArray⟩, .slice y kids.length c, .int .i64 p] 53)) := (Below.refl _ _).alloc (Nat.le_refl _) _
  have HLO : Hid (Γ.B ≤ Γ.wb ∧ Γ.wb < w.heap.size) := by
    obtain ⟨dv, fp, fv, cv, h⟩ := h
    exact ⟨h.low, h.lt⟩
  have hRA : ∀ W, Below w.heap.size w W → RW Γ W (defsE ρ) (depthE ρ) m F fr ca := fun W hb => by
    obtain ⟨dv, fp, fv, cv, h⟩ := h
    exact ⟨dv, fp, fv, cv, h.below hb⟩
  have H0 := Lib.hid (⟨OwR.of_below hA, hRA _ hA⟩ : OwR Γ w _ ∧ _)
  have HB := Lib.hid (Box4.new w (.int .i64 k) (.string ⟨n.toArray⟩) (.slice y kids.length c) (.int .i64 p))
  have HROW := Lib.hid hrow
  have HIH := Lib.hid ih
  have HF := Lib.hid hf
  have HC := Lib.hid hc
  have HN := Lib.hid hn
  have HR := Lib.hid hr
  have HD := Lib.hid hD
  have HSZ : Hid (Γ.B ≤ (w.alloc (.cells #[.int .i64 k, .string ⟨n.toArray⟩, .slice y kids.length c, .int .i64 p] 53)).heap.size ∧ w.heap.size < (w.alloc (.cells #[.int .i64 k, .string ⟨n.toArray⟩, .slice y kids.length c, .int .i64 p] 53)).heap.size) := Lib.hid ⟨by simp; omega, by simp⟩
  clear hA hrow ih hf hc hn hr h hRA hB hD
  go_enter Tryz.func224, Tryz.ntmps224
  go_upto_region 1 with (fail)
  obtain ⟨a, ha⟩ : ∃ a, w.heap.size = a := ⟨_, rfl⟩
  rw [ha] at HB HSZ ⊢
  have HAA := Lib.hid ha
  clear ha
  generalize World.alloc w (.cells #[.int .i64 k, .string ⟨n.toArray⟩, .slice y kids.length c, .int .i64 p] 53) = W at H0 HB HSZ ⊢
  obtain ⟨x0, x1, x2, x3, xf⟩ := HB.out.facts
  have hne : a ≠ Γ.wb := by have := HLO.out; have := HAA.out; omega
  have c0 := ron_any Γ W (defsE ρ) (depthE ρ) m F fr ca H0.out.2
  obtain ⟨O, hO⟩ : ∃ O, (Γ.all || F.isNone) = O := ⟨_, rfl⟩
  rw [hO] at c0
  have HO := Lib.hid hO
  clear hO
  cases O
  · go_wp2_with fail
    refine c0.mono ?_
    clear c0
    rintro e w1 ⟨rfl, rfl⟩
    clear x0 x1 x2 x3 xf
    go_wp2_with fail
    refine bodyPost_ret (results_none rfl _ _ _) rfl ?_
    refine ⟨rfl, ?_⟩
    have := RGo.skip (RGo.start H0.out.1 H0.out.2) (by simpa [onR, wrongE] using HO.out) (evE ρ (.mk k n kids p))
    rwa [List.nil_append] at this
  · obtain ⟨B10, AA⟩ : ∃ B, ((k : Int) == 10) = B := ⟨_, rfl⟩
    obtain ⟨B13, BA⟩ : ∃ B, ((k : Int) == 13) = B := ⟨_, rfl⟩
    go_upto_block 0 with (first | (go_at_call 184; refine c0.mono ?_; rintro e w1 ⟨rfl, rfl⟩; clear c0))
    have CA := Lib.hid AA
    have DA := Lib.hid BA
    clear AA BA x0 x1 x2 x3 xf
    go_cut [4, 5, 6, 7, 8, 9] from 14 to 81 (fun _ _ _ _ _ _ wx => RGo Γ w ρ m F fr ca (exprE ρ k n kids p) wx ∧ Box4 wx a (.int .i64 k) (.string ⟨n.toArray⟩) (.slice y kids.length c) (.int .i64 p) ∧ Γ.B ≤ wx.heap.size)
    case first =>
      have haw : ∀ w1, OwR Γ W w1 → Box4 w1 a (.int .i64 k) (.string ⟨n.toArray⟩) (.slice y kids.length c) (.int .i64 p) := fun w1 ho => HB.out.owr ho hne
      have HAW := Lib.hid haw
      clear haw
      obtain ⟨x0, x1, x2, x3, xf⟩ := HB.out.facts
      have AA := CA.out
      have BA := DA.out
      cases B10
      · cases B13
        · have HE : Hid (exprE ρ k n kids p = []) := Lib.hid (by
            unfold exprE
            rw [if_neg (by simpa using CA.out), if_neg (by simpa using DA.out)])
          go_wp2_with fail
          go_meet
          refine ⟨?_, HB.out, HSZ.out.1⟩
          rw [HE.out]
          exact RGo.start H0.out.1 H0.out.2
        · obtain rfl : k = 13 := by simpa using DA.out
          obtain ⟨X0, r, rfl⟩ : ∃ X0 r, kids = X0 :: r := by
            cases kids with
            | nil => exact absurd rfl (HR.out rfl)
            | cons a b => exact ⟨a, b, rfl⟩
          obtain ⟨k0, m0, l0, p0⟩ := X0
          obtain ⟨B, o, hyo, hat, -⟩ := HROW.out
          subst hyo
          obtain ⟨hokb, -, -, -, y0, cv0, hy2, -⟩ := hat
          generalize cv0.val = c0' at hy2
          clear cv0
          have HK0 : Hid (∀ w1, OwR Γ W w1 → w1.cell? ⟨B, o + 2, none⟩ = some (.slice y0 l0.length c0')) := Lib.hid fun w1 ho => by
            have hBl := World.block_lt_of_cell? w _ hy2
            have hlo := HLO.out.1
            have hok := hokb.ok
            exact (World.cell?_of_block ((H0.out.1.trans ho).block B hBl (by have : B < Γ.B := hok; omega) (.inl hok))).trans hy2
          obtain ⟨L, hLL⟩ : ∃ L, l0.length = L := ⟨_, rfl⟩
          rw [hLL] at HK0
          have HLL : Hid (argc (.mk k0 m0 l0 p0 :: r) = L) := hLL
          obtain ⟨K, hK⟩ : ∃ K, (Nd.mk k0 m0 l0 p0 :: r).length = K := ⟨_, rfl⟩
          have HKK : Hid ((Nd.mk k0 m0 l0 p0 :: r).length = K ∧ 0 < K) := Lib.hid ⟨hK, by rw [← hK]; simp⟩
          have HE : Hid (exprE ρ 13 n (.mk k0 m0 l0 p0 :: r) p = .call n :: (match (findE ρ 1 n false).or (fnB n) with
              | none => [.miss n p]
              | some a => if argc (.mk k0 m0 l0 p0 :: r) = a then [] else [.bad 281 n p])) := Lib.hid (by
            unfold exprE
            rw [if_neg (by decide), if_pos rfl]
            rfl)
          clear hokb hy2 hLL hK
          go_upto_region 8 with (fail)
          have HPUT : Hid (∃ fv dv fp cv, RB Γ W dv (defsE ρ) (depthE ρ) m fp F fv fr cv ca) := by
            obtain ⟨dv, fp, fv, cv, h⟩ := H0.out.2
            exact ⟨fv, dv, fp, cv, h⟩
          obtain ⟨fv, dv, fp, cv, hrb⟩ := HPUT.out
          have HRB := Lib.hid hrb
          obtain ⟨-, -, -, -, -, -, x6, xf6⟩ := hrb.cells
          have cP := rput_any ca n (by have := HC.out; omega) Γ.B cv W.drew hrb.cal HSZ.out.1
          clear hrb
          go_cut [] from 38 to 47 (fun wx => OwR Γ W wx ∧ RW Γ wx (defsE ρ) (depthE ρ) m F fr (putS ca n))
          case first =>
            go_region_with (first | (go_at_call 243; (with_reducible refine cP.mono ?_); rintro e w2 ⟨v2, rfl, hown2, hb2⟩; obtain ⟨a2, c2, rfl, -⟩ := names_at hown2; have EA : Below W.heap.size W w2 := ((Below.refl _ _).drew : Below W.heap.size W W.drew).trans hb2; obtain ⟨-, -, -, -, -, -, y6, yf⟩ := (HRB.out.below EA).cells; have yf6 := yf 6))
            all_goals (
              have HEND : Hid (OwR Γ W (w2.setCell ⟨Γ.wb, 6, none⟩ (.slice a2 (putS ca n).length c2)) ∧ RW Γ (w2.setCell ⟨Γ.wb, 6, none⟩ (.slice a2 (putS ca n).length c2)) (defsE ρ) (depthE ρ) m F fr (putS ca n)) := Lib.hid ⟨(OwR.of_below EA).setCell _ _, ⟨_, _, _, _, (HRB.out.below EA).setCalls hown2⟩⟩
              go_wp2_with fail
              go_meet
              exact HEND.out)
          case rest =>
            obtain ⟨ho1, hr1⟩ := hcut
            have HO1 := Lib.hid ho1
            have HR1 := Lib.hid hr1
            clear x0 x1 x2 x3 xf x6 xf6 cP
            obtain ⟨x0, x1, x2, x3, xf⟩ := (HAW.out _ ho1).facts
            have cb := rbuiltin1 n wc
            have cf := rfind_any Γ wc _ _ m F fr (putS ca n) HD.out hr1 1 n
            have hls := lastD_find ρ 1 n
            obtain ⟨X, hX⟩ : ∃ X, lastD 1 n (defsE ρ) = X := ⟨_, rfl⟩
            rw [hX] at cf hls
            have HLS := Lib.hid hls
            obtain ⟨G, hG⟩ : ∃ G, fnB n = G := ⟨_, rfl⟩
            rw [hG] at cb
            have HG := Lib.hid hG
            clear ho1 hr1 hX hls hG AA BA HRB HPUT
            go_wp2_with fail
            refine cb.mono ?_
            clear cb
            rintro e w2 ⟨rfl, rfl⟩
            go_wp2_with fail
            refine cf.mono ?_
            clear cf
            rintro e w2 ⟨rfl, hb2⟩
            cases X with
            | some d =>
              obtain ⟨k', s', ar, de⟩ := d
              rw [show dfV (some (k', s', ar, de)) = .agg #[.int .i64 k', .string ⟨s'.toArray⟩, .int .i64 ar, .int .i64 de] from rfl, show (some (k', s', ar, de)).isSome = true from rfl]
              have hb3 : Below wc.heap.size wc (w2.alloc (.cells #[.int .i64 k', .string ⟨s'.toArray⟩, .int .i64 ar, .int .i64 de] 265)) := hb2.alloc hb2.size _
              have HO3 := Lib.hid (HO1.out.below hb3)
              have HR3 := Lib.hid (HR1.out.below hb3)
              obtain ⟨d0, d1, d2, d3, df⟩ := BoxD.facts (w := w2.alloc (.cells #[.int .i64 k', .string ⟨s'.toArray⟩, .int .i64 ar, .int .i64 de] 265)) (heap_alloc_new w2 _)
              have HE2 : Hid (exprE ρ 13 n (.mk k0 m0 l0 p0 :: r) p = .call n :: (if argc (.mk k0 m0 l0 p0 :: r) = ar then [] else [.bad 281 n p])) := Lib.hid (by
                have : findE ρ 1 n false = some ar := HLS.out.symm
                rw [HE.out, this]
                rfl)
              clear hb2 hb3 x0 x1 x2 x3 xf
              have Qa : ¬ ((ar : Nat) : Int) < 0 := by omega
              obtain ⟨x0, x1, x2, x3, xf⟩ := (HAW.out _ HO3.out).facts
              rw [HKK.out.1] at x2
              have y2 := HK0.out _ HO3.out
              have hkl := HKK.out.2
              have hkl' : (0 : Int) < (K : Int) := by omega
              by_cases hLa : L = ar
              · have Q5 : ((L : Int) != ((ar : Nat) : Int)) = false := by simp [hLa]
                have HE3 : Hid (exprE ρ 13 n (.mk k0 m0 l0 p0 :: r) p = [.call n]) := Lib.hid (by rw [HE2.out, if_pos (by rw [HLL.out]; exact hLa)])
                clear hLa
                go_wp2_with fail
                go_meet
                refine ⟨?_, HAW.out _ HO3.out, Nat.le_trans HSZ.out.1 HO3.out.size⟩
                rw [HE3.out]
                exact RGo.call (H0.out.1.trans HO3.out) HR3.out
              · have Q5 : ((L : Int) != ((ar : Nat) : Int)) = true := by
                  rw [bne_iff_ne]
                  omega
                have HE3 : Hid (exprE ρ 13 n (.mk k0 m0 l0 p0 :: r) p = [.call n] ++ [.bad 281 n p]) := Lib.hid (by rw [HE2.out, if_neg (by rw [HLL.out]; exact hLa)]; rfl)
                have cW := rwrong_any Γ _ _ _ m F fr (putS ca n) HR3.out 13 n (some ⟨B, o, none⟩) K c p 281
                clear hLa
                go_wp2_with fail
                refine cW.mono ?_
                clear cW x0 x1 x2 x3 xf y2
                rintro e w8 ⟨rfl, ho8, hr8⟩
                have HO8 := Lib.hid (HO3.out.trans ho8)
                have HR8 := Lib.hid hr8
                clear ho8 hr8
                go_wp2_with fail
                go_meet
                refine ⟨?_, HAW.out _ HO8.out, Nat.le_trans HSZ.out.1 HO8.out.size⟩
                rw [HE3.out]
                exact RGo.comp (fr1 := fr) (ca1 := putS ca n) (H0.out.1.trans HO8.out) (by simp) (by have := putS_len ca n; simpa using this) (fun _ => ⟨rfl, rfl⟩) (RGo.bad (F := F.or (wrongE [.call n])) (OwR.refl _ _) (by simpa [wrongE] using HR8.out))
            | none =>
              rw [show dfV none = .agg #[.int .i64 0, .string ⟨#[]⟩, .int .i64 0, .int .i64 0] from rfl, show (none : Option DefR).isSome = false from rfl]
              have hb3 : Below wc.heap.size wc (w2.alloc (.cells #[.int .i64 0, .string ⟨#[]⟩, .int .i64 0, .int .i64 0] 265)) := hb2.alloc hb2.size _
              have HO3 := Lib.hid (HO1.out.below hb3)
              have HR3 := Lib.hid (HR1.out.below hb3)
              have hfn : findE ρ 1 n false = none := HLS.out.symm
              clear hb2 hb3 x0 x1 x2 x3 xf
              cases G with
              | none =>
                have HE2 : Hid (exprE ρ 13 n (.mk k0 m0 l0 p0 :: r) p = [.call n] ++ [.miss n p]) := Lib.hid (by rw [HE.out, hfn, HG.out]; rfl)
                clear hfn
                obtain ⟨x0, x1, x2, x3, xf⟩ := (HAW.out _ HO3.out).facts
                rw [HKK.out.1] at x2
                rw [show argI none = -1 from rfl]
                have Qm : (-1 : Int) < 0 := by decide
                have cF := rfree_any Γ _ _ _ m F fr (putS ca n) (by have := HF.out; omega) HR3.out 13 n (some ⟨B, o, none⟩) K c p
                go_wp2_with fail
                refine cF.mono ?_
                clear cF x0 x1 x2 x3 xf
                rintro e w8 ⟨rfl, ho8, hr8⟩
                have HO8 := Lib.hid (HO3.out.trans ho8)
                have HR8 := Lib.hid hr8
                clear ho8 hr8
                go_wp2_with fail
                go_meet
                refine ⟨?_, HAW.out _ HO8.out, Nat.le_trans HSZ.out.1 HO8.out.size⟩
                rw [HE2.out]
                exact RGo.comp (fr1 := fr) (ca1 := putS ca n) (H0.out.1.trans HO8.out) (by simp) (by have := putS_len ca n; simpa using this) (fun _ => ⟨rfl, rfl⟩) (RGo.miss (F := F.or (wrongE [.call n])) (OwR.refl _ _) (by simpa [wrongE] using HR8.out))
              | some fa =>
                have HE2 : Hid (exprE ρ 13 n (.mk k0 m0 l0 p0 :: r) p = .call n :: (if argc (.mk k0 m0 l0 p0 :: r) = fa then [] else [.bad 281 n p])) := Lib.hid (by rw [HE.out, hfn, HG.out]; rfl)
                clear hfn
                rw [show argI (some fa) = (fa : Int) from rfl]
                have Qa : ¬ ((fa : Nat) : Int) < 0 := by omega
                obtain ⟨x0, x1, x2, x3, xf⟩ := (HAW.out _ HO3.out).facts
                rw [HKK.out.1] at x2
                have y2 := HK0.out _ HO3.out
                have hkl := HKK.out.2
                have hkl' : (0 : Int) < (K : Int) := by omega
                by_cases hLa : L = fa
                · have Q5 : ((L : Int) != ((fa : Nat) : Int)) = false := by simp [hLa]
                  have HE3 : Hid (exprE ρ 13 n (.mk k0 m0 l0 p0 :: r) p = [.call n]) := Lib.hid (by rw [HE2.out, if_pos (by rw [HLL.out]; exact hLa)])
                  clear hLa
                  go_wp2_with fail
                  go_meet
                  refine ⟨?_, HAW.out _ HO3.out, Nat.le_trans HSZ.out.1 HO3.out.size⟩
                  rw [HE3.out]
                  exact RGo.call (H0.out.1.trans HO3.out) HR3.out
                · have Q5 : ((L : Int) != ((fa : Nat) : Int)) = true := by
                    rw [bne_iff_ne]
                    omega
                  have HE3 : Hid (exprE ρ 13 n (.mk k0 m0 l0 p0 :: r) p = [.call n] ++ [.bad 281 n p]) := Lib.hid (by rw [HE2.out, if_neg (by rw [HLL.out]; exact hLa)]; rfl)
                  have cW := rwrong_any Γ _ _ _ m F fr (putS ca n) HR3.out 13 n (some ⟨B, o, none⟩) K c p 281
                  clear hLa
                  go_wp2_with fail
                  refine cW.mono ?_
                  clear cW x0 x1 x2 x3 xf y2
                  rintro e w8 ⟨rfl, ho8, hr8⟩
                  have HO8 := Lib.hid (HO3.out.trans ho8)
                  have HR8 := Lib.hid hr8
                  clear ho8 hr8
                  go_wp2_with fail
                  go_meet
                  refine ⟨?_, HAW.out _ HO8.out, Nat.le_trans HSZ.out.1 HO8.out.size⟩
                  rw [HE3.out]
                  exact RGo.comp (fr1 := fr) (ca1 := putS ca n) (H0.out.1.trans HO8.out) (by simp) (by have := putS_len ca n; simpa using this) (fun _ => ⟨rfl, rfl⟩) (RGo.bad (F := F.or (wrongE [.call n])) (OwR.refl _ _) (by simpa [wrongE] using HR8.out))
      · obtain rfl : k = 10 := by simpa using CA.out
        have HE : Hid (exprE ρ 10 n kids p = if (findE ρ 0 n false).isNone && !truthB n then [.miss n p] else []) := Lib.hid (by
          unfold exprE
          rw [if_pos rfl])
        have cf := rfind_any Γ W _ _ m F fr ca HD.out H0.out.2 0 n
        have hls := last_some ρ 0 n
        obtain ⟨X, hX⟩ : ∃ X, lastD 0 n (defsE ρ) = X := ⟨_, rfl⟩
        rw [hX] at cf hls
        have HLS := Lib.hid hls
        clear hX hls AA BA
        go_wp2_with fail
        refine cf.mono ?_
        clear cf
        rintro e w1 ⟨rfl, hb1⟩
        cases X with
        | some d =>
          obtain ⟨k', s', ar, de⟩ := d
          rw [show dfV (some (k', s', ar, de)) = .agg #[.int .i64 k', .string ⟨s'.toArray⟩, .int .i64 ar, .int .i64 de] from rfl, show (some (k', s', ar, de)).isSome = true from rfl]
          have hb2 : Below W.heap.size W (w1.alloc (.cells #[.int .i64 k', .string ⟨s'.toArray⟩, .int .i64 ar, .int .i64 de] 265)) := hb1.alloc hb1.size _
          have HB2 := Lib.hid hb2
          have HE2 : Hid (exprE ρ 10 n kids p = []) := Lib.hid (by
            rw [HE.out]
            have : (findE ρ 0 n false).isSome = true := HLS.out.symm
            cases hq : findE ρ 0 n false with
            | none => rw [hq] at this; cases this
            | some q => rfl)
          clear hb1 hb2 x0 x1 x2 x3 xf
          go_wp2_with fail
          go_meet
          refine ⟨?_, HAW.out _ (OwR.of_below HB2.out), Nat.le_trans HSZ.out.1 HB2.out.size⟩
          rw [HE2.out]
          exact RGo.start (H0.out.1.below HB2.out) (H0.out.2.below HB2.out)
        | none =>
          rw [show dfV none = .agg #[.int .i64 0, .string ⟨#[]⟩, .int .i64 0, .int .i64 0] from rfl, show (none : Option DefR).isSome = false from rfl]
          have hb2 : Below W.heap.size W (w1.alloc (.cells #[.int .i64 0, .string ⟨#[]⟩, .int .i64 0, .int .i64 0] 265)) := hb1.alloc hb1.size _
          have HB2 := Lib.hid hb2
          have hnone : (findE ρ 0 n false).isNone = true := by
            have : (findE ρ 0 n false).isSome = false := HLS.out.symm
            cases hq : findE ρ 0 n false with
            | none => rfl
            | some q => rw [hq] at this; cases this
          have HE2 : Hid (exprE ρ 10 n kids p = if !truthB n then [.miss n p] else []) := Lib.hid (by rw [HE.out, hnone]; rfl)
          clear x0 x1 x2 x3 xf hnone
          obtain ⟨x0, x1, x2, x3, xf⟩ := (HAW.out _ (OwR.of_below hb2)).facts
          have ct := rtruth_any n (w1.alloc (.cells #[.int .i64 0, .string ⟨#[]⟩, .int .i64 0, .int .i64 0] 265))
          have cF := rfree_any Γ _ _ _ m F fr ca (by have := HF.out; omega) (H0.out.2.below hb2) 10 n y kids.length c p
          obtain ⟨T, hT⟩ : ∃ T, truthB n = T := ⟨_, rfl⟩
          rw [hT] at ct
          have HT := Lib.hid hT
          clear hb1 hb2 hT
          go_wp2_with fail
          refine ct.mono ?_
          clear ct
          rintro e w3 ⟨rfl, rfl⟩
          cases T
          · have HE3 : Hid (exprE ρ 10 n kids p = [.miss n p]) := Lib.hid (by rw [HE2.out, HT.out]; rfl)
            go_wp2_with fail
            refine cF.mono ?_
            clear cF x0 x1 x2 x3 xf
            rintro e w4 ⟨rfl, ho4, hr4⟩
            have HO4 := Lib.hid ((OwR.of_below HB2.out).trans ho4)
            have HR4 := Lib.hid hr4
            clear ho4 hr4
            go_wp2_with fail
            go_meet
            refine ⟨?_, HAW.out _ HO4.out, Nat.le_trans HSZ.out.1 HO4.out.size⟩
            rw [HE3.out]
            exact RGo.miss (H0.out.1.trans HO4.out) HR4.out
          · have HE3 : Hid (exprE ρ 10 n kids p = []) := Lib.hid (by rw [HE2.out, HT.out]; rfl)
            clear x0 x1 x2 x3 xf cF
            go_wp2_with fail
            go_meet
            refine ⟨?_, HAW.out _ (OwR.of_below HB2.out), Nat.le_trans HSZ.out.1 HB2.out.size⟩
            rw [HE3.out]
            exact RGo.start (H0.out.1.below HB2.out) (H0.out.2.below HB2.out)
    case rest =>
      obtain ⟨hgo, hbx, hsz⟩ := hcut
      obtain ⟨x0, x1, x2, x3, xf⟩ := hbx.facts
      have HGO := Lib.hid (⟨hgo, hbx, hsz⟩ : _ ∧ _ ∧ _)
      obtain ⟨len, hlen⟩ : ∃ len, kids.length = len := ⟨_, rfl⟩
      have HLN := Lib.hid hlen
      rw [hlen] at x2 hk
      clear hgo hbx hsz HB H0 hlen HO CA DA
      go_wp2_with fail
      go_loopg [10] len (fun g v wx => ∃ i : Nat, v = .int .i64 i ∧ i + g = len ∧ RGo Γ w ρ m F fr ca (exprE ρ k n kids p ++ evEs ρ (kids.take i)) wx ∧ Box4 wx a (.int .i64 k) (.string ⟨n.toArray⟩) (.slice y kids.length c) (.int .i64 p) ∧ Γ.B ≤ wx.heap.size)
      case atStart => exact ⟨0, rfl, by omega, by simpa [evEs] using HGO.out.1, HGO.out.2⟩
      case round =>
        clear HGO x0 x1 x2 x3 xf
        obtain ⟨i, rfl, hi, hgo, hbx, hsz⟩ := hrel
        obtain ⟨how, fr1, ca1, hrw, l1, l2, hall⟩ := hgo
        obtain ⟨x0, x1, x2, x3, xf⟩ := hbx.facts
        rw [HLN.out] at x2
        have HBX := Lib.hid (⟨hbx, hsz⟩ : _ ∧ _)
        have HGO := Lib.hid (⟨how, l1, l2, hall⟩ : _ ∧ _ ∧ _ ∧ _)
        have HRW := Lib.hid hrw
        by_cases hlt : i < len
        · obtain ⟨x, hx⟩ : ∃ x, kids[i]? = some x := ⟨kids[i]'(by have := HLN.out; omega), List.getElem?_eq_getElem _⟩
          have hmem := List.mem_of_getElem? hx
          obtain ⟨B, o, hyo, hat⟩ := (HROW.out.owr how HLO.out.1).at_ hx
          subst hyo
          have hevs : evEs ρ (kids.take (i + 1)) = evEs ρ (kids.take i) ++ evE ρ x := by rw [List.take_add_one, hx]; exact evEs_snoc ρ _ x
          have hcat : exprE ρ k n kids p ++ evEs ρ kids = (exprE ρ k n kids p ++ evEs ρ (kids.take i)) ++ (evE ρ x ++ evEs ρ (kids.drop (i + 1))) := by
            have h1 : kids = kids.take (i + 1) ++ kids.drop (i + 1) := (List.take_append_drop _ _).symm
            have h2 : evEs ρ kids = evEs ρ (kids.take (i + 1)) ++ evEs ρ (kids.drop (i + 1)) := by
              conv => lhs; rw [h1]
              exact evEs_app ρ _ _
            rw [h2, hevs]
            simp only [List.append_assoc]
          obtain ⟨k1, n1, l1', p1⟩ := x
          obtain ⟨-, z0, z1, z3, y1, c1, z2, hk1⟩ := hat
          have HX := Lib.hid (HIH.out _ hmem)
          have HEV := Lib.hid hevs
          have HCAT := Lib.hid hcat
          have HK1 := Lib.hid hk1
          have hlt' : (i : Int) < (len : Int) := by omega
          have Qi1 : IntKind.i64.wrap ((i : Int) + 1) = (i : Int) + 1 := IntWalk.i64_in _ (by omega)
          have c0 := ron_any Γ wr _ _ m _ fr1 ca1 hrw
          obtain ⟨O, hO⟩ : ∃ O, (Γ.all || (F.or (wrongE (exprE ρ k n kids p ++ evEs ρ (kids.take i)))).isNone) = O := ⟨_, rfl⟩
          rw [hO] at c0
          have HO := Lib.hid hO
          have cx := HX.out wr ρ m _ fr1 ca1 (.agg #[.int .i64 k1, .string ⟨n1.toArray⟩, .slice y1 l1'.length c1, .int .i64 p1]) ⟨y1, c1, rfl, hk1⟩ hrw hsz HD.out
            (by have h1 := HF.out; rw [evE, HCAT.out] at h1; simp only [List.length_append] at h1 l1 ⊢; omega) (by have h1 := HC.out; rw [evE, HCAT.out] at h1; simp only [List.length_append] at h1 l2 ⊢; omega)
          clear hx hmem hevs hcat hk1 hO how l1 l2 hall hrw hbx hsz HK1
          cases O
          · have HEND : Hid (RGo Γ w ρ m F fr ca (evE ρ (.mk k n kids p)) wr) := Lib.hid (by
              have := RGo.skip (e1 := exprE ρ k n kids p ++ evEs ρ (kids.take i)) ⟨HGO.out.1, fr1, ca1, HRW.out, HGO.out.2.1, HGO.out.2.2.1, HGO.out.2.2.2⟩ HO.out (evE ρ (.mk k1 n1 l1' p1) ++ evEs ρ (kids.drop (i + 1)))
              rw [← HCAT.out] at this
              rwa [evE])
            clear cx
            go_wp2_with fail
            refine c0.mono ?_
            clear c0
            rintro e w1 ⟨rfl, rfl⟩
            go_wp2_with fail
            go_end0
            exact ⟨rfl, HEND.out⟩
          · go_wp2_with fail
            refine c0.mono ?_
            clear c0
            rintro e w1 ⟨rfl, rfl⟩
            go_wp2_with fail
            refine cx.mono ?_
            clear cx z0 z1 z2 z3 x0 x1 x2 x3 xf
            rintro e w2 ⟨rfl, hres⟩
            have HRES : Hid (RGo Γ w ρ m F fr ca (exprE ρ k n kids p ++ evEs ρ (kids.take (i + 1))) w2) := by
              show RGo _ _ _ _ _ _ _ _ _
              rw [HEV.out, ← List.append_assoc]
              exact RGo.comp HGO.out.1 HGO.out.2.1 HGO.out.2.2.1 HGO.out.2.2.2 hres
            have HB2 := Lib.hid (⟨HBX.out.1.owr hres.1 hne, Nat.le_trans HBX.out.2 hres.1.size⟩ : _ ∧ _)
            clear hres
            go_wp2_with fail
            go_roundg (gk - 1)
            case measure => omega
            case rel => exact ⟨i + 1, rfl, by omega, HRES.out, HB2.out⟩
        · have hlt' : ¬ (i : Int) < (len : Int) := by omega
          have HEND : Hid (RGo Γ w ρ m F fr ca (evE ρ (.mk k n kids p)) wr) := Lib.hid (by
            have : RGo Γ w ρ m F fr ca (exprE ρ k n kids p ++ evEs ρ (kids.take i)) wr := ⟨HGO.out.1, fr1, ca1, HRW.out, HGO.out.2.1, HGO.out.2.2.1, HGO.out.2.2.2⟩
            rw [List.take_of_length_le (by have := HLN.out; omega)] at this
            rwa [evE])
          clear how l1 l2 hall hrw hbx hsz
          go_wp2_with fail
          go_end0
          exact ⟨rfl, HEND.out⟩
end Go.Proofs.YtpbkeamjdolpgaaGreatDoor
namespace Go.Proofs.YtpbkeamjdolpgaaGreatDoor
open Go.RowKit Go.Lib

theorem rex28_any (Γ : RCtx) : ∀ (N : Nat) (x : Nd), wtN x < N → wtN x < 2 ^ 40 → (exR x = true ∨ partR x = true ∧ x.kind = 8) → ExprR Γ x
  | N + 1, .mk k n kids p, hN, hs, hx => by
    rw [wtN_mk] at hN hs
    have hlen := len_wtL kids
    have hk : ∀ y ∈ kids, exR y = true ∨ partR y = true ∧ y.kind = 8 := by
      intro y hy
      rcases hx with hx | ⟨hx, h8⟩
      · have h0 : exR (.mk k n kids p) = (if k = 9 then numR n && kids.isEmpty
          else if k = 10 then plainR n && kids.isEmpty
          else if k = 11 then n.isEmpty && exsR kids
          else if k = 12 then (if kids.length = 1 then (decide (n = [45]) || decide (n = [33])) && exsR kids else decide (0 < levelS n) && decide (kids.length = 2) && exsR kids)
          else if k = 13 then plainR n && shR [8] kids
          else if k = 14 then n.isEmpty && decide (kids.length = 2) && exsR kids
          else if k = 15 then n.isEmpty && decide (kids.length = 3) && exsR kids
          else false) := by rw [exR]
        rw [h0] at hx
        have he : ∀ {b : Bool}, (b && kids.isEmpty) = true → False := fun h => by
          simp at h
          rw [h.2] at hy
          cases hy
        have hee : ∀ {b : Bool}, (b && exsR kids) = true → exR y = true ∨ partR y = true ∧ y.kind = 8 := fun h => by
          rw [Bool.and_eq_true] at h
          exact .inl (exsR_each h.2 y hy)
        by_cases k9 : k = 9
        · rw [if_pos k9] at hx; exact (he hx).elim
        rw [if_neg k9] at hx
        by_cases k10 : k = 10
        · rw [if_pos k10] at hx; exact (he hx).elim
        rw [if_neg k10] at hx
        by_cases k11 : k = 11
        · rw [if_pos k11] at hx; exact hee hx
        rw [if_neg k11] at hx
        by_cases k12 : k = 12
        · rw [if_pos k12] at hx
          split at hx
          · exact hee hx
          · exact hee hx
        rw [if_neg k12] at hx
        by_cases k13 : k = 13
        · rw [if_pos k13] at hx
          rw [Bool.and_eq_true] at hx
          have h2 := hx.2
          cases kids with
          | nil => cases hy
          | cons z r =>
            cases r with
            | nil =>
              have h3 : (decide (z.kind = 8) && partR z) = true := by
                rw [shR, shR] at h2
                simpa using h2
              rw [Bool.and_eq_true] at h3
              rw [List.mem_singleton] at hy
              subst hy
              exact .inr ⟨h3.2, by simpa using h3.1⟩
            | cons z2 r2 =>
              have h3 : shR [8] (z :: z2 :: r2) = ((if (8 : Int) < 0 then exR z else decide (z.kind = 8) && partR z) && shR [] (z2 :: r2)) := by rw [shR]
              rw [h3, shR_nil_cons, Bool.and_false] at h2
              cases h2
        rw [if_neg k13] at hx
        by_cases k14 : k = 14
        · rw [if_pos k14] at hx; exact hee hx
        rw [if_neg k14] at hx
        by_cases k15 : k = 15
        · rw [if_pos k15] at hx; exact hee hx
        rw [if_neg k15] at hx
        cases hx
      · have h8' : k = 8 := h8
        subst h8'
        have h2 : (n.isEmpty && exsR kids) = true := by
          rw [partR] at hx
          simpa using hx
        rw [Bool.and_eq_true] at h2
        exact .inl (exsR_each h2.2 y hy)
    refine rexpr_step Γ k n kids p (by omega) (by omega) ?_ fun y hy => ?_
    · rintro rfl rfl
      rcases hx with hx | ⟨-, h8⟩
      · rw [exR] at hx
        simp [shR] at hx
      · cases h8
    · have := wtL_mem hy
      exact rex28_any Γ N y (by omega) (by omega) (hk y hy)
theorem parV_depth : ∀ (l : List Nd) (ρ : Env), depthE (parV ρ l) = depthE ρ
  | [], _ => rfl
  | .mk _ n _ _ :: r, ρ => parV_depth r (some (0, n, 0) :: ρ)
theorem parV_len : ∀ (l : List Nd) (ρ : Env), (defsE (parV ρ l)).length = (defsE ρ).length + l.length
  | [], _ => rfl
  | .mk _ n _ _ :: r, ρ => by
    show (defsE (parV (some (0, n, 0) :: ρ) r)).length = _
    rw [parV_len r]
    simp [defsE]
    omega
theorem parV_all : ∀ (l : List Nd) (ρ : Env), ρ.all (·.isSome) = false → (parV ρ l).all (·.isSome) = false
  | [], _, h => h
  | .mk _ n _ _ :: r, ρ, h => parV_all r _ (by simpa using h)
theorem own_find (ρ : Env) (k : Nat) (s : List UInt8) (h : ρ.all (·.isSome) = false) : ownD (lastD k s (defsE ρ)) (depthE ρ) = (findE ρ k s true).isSome := by
  rcases lastD_own ρ k s with h1 | h1
  · rw [← h1]
    cases lastD k s (defsE ρ) <;> rfl
  · rw [h] at h1
    cases h1
def ParR (Γ : RCtx) (l : List Nd) : Prop := ∀ (w : World) (ρ : Env) (m : Nat) (F : FltR) (fr ca : List (List UInt8)) (y : Option Addr) (c : Nat), NdRow w (fun b => b < Γ.B) l y → RW Γ w (defsE ρ) (depthE ρ) m F fr ca → Γ.B ≤ w.heap.size → ρ.all (·.isSome) = false → (defsE ρ).length + l.length < 2 ^ 40 →
  Calls Tryz.prog 245 #[.pointer (some ⟨Γ.wb, 0, none⟩), .slice y l.length c] w fun e w' => e = .returned (.tuple #[]) ∧ ∃ j, j ≤ l.length ∧ RGo Γ w (parV ρ (l.take j)) m F fr ca (parE ρ l) w' ∧ (j = l.length ∨ onR Γ (F.or (wrongE (parE ρ l))) = false)
set_option maxHeartbeats 4000000 in
set_option maxRecDepth 100000 in
theorem rpar28_any (Γ : RCtx) (l : List Nd) : ParR Γ l := by
  intro w ρ m F fr ca y c hrow h hB hall hD
  have HLO : Hid (Γ.B ≤ Γ.wb ∧ Γ.wb < w.heap.size) := by
    obtain ⟨dv, fp, fv, cv, h⟩ := h
    exact ⟨h.low, h.lt⟩
  have H0 := Lib.hid h
  have HROW := Lib.hid hrow
  have HALL := Lib.hid hall
  obtain ⟨len, hlen⟩ : ∃ len, l.length = len := ⟨_, rfl⟩
  have HLN := Lib.hid hlen
  rw [hlen] at hD ⊢
  have HLD := Lib.hid hD
  have HSB := Lib.hid hB
  clear h hrow hall hlen hB
  go_enter Tryz.func245, Tryz.ntmps245
  go_wp2_with fail
  go_loopg [4] len (fun g v wx => ∃ i : Nat, v = .int .i64 i ∧ i + g = len ∧ RGo Γ w (parV ρ (l.take i)) m F fr ca (parE ρ (l.take i)) wx ∧ Γ.B ≤ wx.heap.size)
  case atStart => exact ⟨0, rfl, by omega, by simpa [parV, parE] using RGo.start (OwR.refl _ _) H0.out, HSB.out⟩
  case round =>
    obtain ⟨i, rfl, hi, hgo, hsz⟩ := hrel
    obtain ⟨how, fr1, ca1, hrw, l1, l2, hall⟩ := hgo
    have HGO := Lib.hid (⟨how, l1, l2, hall⟩ : _ ∧ _ ∧ _ ∧ _)
    have HRW := Lib.hid hrw
    by_cases hlt : i < len
    · obtain ⟨x, hx⟩ : ∃ x, l[i]? = some x := ⟨l[i]'(by have := HLN.out; omega), List.getElem?_eq_getElem _⟩
      have HNA := Lib.hid (HROW.out.owr how HLO.out.1)
      obtain ⟨B, o, hyo, hat⟩ := HNA.out.at_ hx
      subst hyo
      have htk : l.take (i + 1) = l.take i ++ [x] := by rw [List.take_add_one, hx]; rfl
      obtain ⟨k1, n1, l1', p1⟩ := x
      have hpv : parV ρ (l.take (i + 1)) = some (0, n1, 0) :: parV ρ (l.take i) := by rw [htk, parV_app]; rfl
      have hpe : parE ρ (l.take (i + 1)) = parE ρ (l.take i) ++ dupE (parV ρ (l.take i)) n1 p1 := by
        rw [htk, parE_app]
        show _ ++ (dupE _ n1 p1 ++ []) = _
        rw [List.append_nil]
      have hcat : parE ρ l = parE ρ (l.take i) ++ parE (parV ρ (l.take i)) (l.drop i) := by
        conv => lhs; rw [← List.take_append_drop i l]
        exact parE_app _ _ _
      obtain ⟨-, z0, z1, z3, y1, c1, z2, hk1⟩ := hat
      have HX := Lib.hid hx
      have HPV := Lib.hid hpv
      have HPE := Lib.hid hpe
      have HCAT := Lib.hid hcat
      have HDL : Hid ((defsE (parV ρ (l.take i))).length = (defsE ρ).length + i) := Lib.hid (by rw [parV_len, List.length_take, HLN.out, Nat.min_eq_left (by omega)])
      have hlt' : (i : Int) < (len : Int) := by omega
      have Qi1 : IntKind.i64.wrap ((i : Int) + 1) = (i : Int) + 1 := IntWalk.i64_in _ (by omega)
      have c0 := ron_any Γ wr _ _ m _ fr1 ca1 hrw
      obtain ⟨O, hO⟩ : ∃ O, (Γ.all || (F.or (wrongE (parE ρ (l.take i)))).isNone) = O := ⟨_, rfl⟩
      rw [hO] at c0
      have HO := Lib.hid hO
      have HS := Lib.hid hsz
      have ct := rtruth_any n1 wr
      have co := rown_any Γ wr _ _ m _ fr1 ca1 (by rw [HDL.out]; have := HLD.out; omega) hrw 0 n1
      rw [own_find _ _ _ (parV_all _ _ HALL.out)] at co
      clear hx htk hpv hpe hcat hk1 hO how l1 l2 hall hrw hsz
      cases O
      · have HEND : Hid (RGo Γ w (parV ρ (l.take i)) m F fr ca (parE ρ l) wr ∧ onR Γ (F.or (wrongE (parE ρ l))) = false) := Lib.hid (by
          have h1 := RGo.skip (e1 := parE ρ (l.take i)) ⟨HGO.out.1, fr1, ca1, HRW.out, HGO.out.2.1, HGO.out.2.2.1, HGO.out.2.2.2⟩ HO.out (parE (parV ρ (l.take i)) (l.drop i))
          rw [← HCAT.out] at h1
          refine ⟨h1, ?_⟩
          have h2 := HO.out
          rw [Bool.or_eq_false_iff] at h2
          unfold onR
          rw [h2.1, HCAT.out, wrongE_app, ← Option.or_assoc]
          cases hF : F.or (wrongE (parE ρ (l.take i))) with
          | none => rw [hF] at h2; cases h2.2
          | some q => rfl)
        clear ct co
        go_wp2_with fail
        refine c0.mono ?_
        clear c0
        rintro e w1 ⟨rfl, rfl⟩
        go_wp2_with fail
        go_end0
        exact ⟨rfl, i, by omega, HEND.out.1, .inr HEND.out.2⟩
      · obtain ⟨T, hT⟩ : ∃ T, truthB n1 = T := ⟨_, rfl⟩
        rw [hT] at ct
        have HT := Lib.hid hT
        obtain ⟨W, hW⟩ : ∃ W, (findE (parV ρ (l.take i)) 0 n1 true).isSome = W := ⟨_, rfl⟩
        rw [hW] at co
        have HOW := Lib.hid hW
        clear hT hW
        have HREF : Hid (OwR Γ wr wr) := Lib.hid (OwR.refl _ _)
        go_wp2_with fail
        refine c0.mono ?_
        clear c0
        rintro e w1 ⟨rfl, rfl⟩
        go_wp2_with fail
        refine ct.mono ?_
        clear ct
        rintro e w1 ⟨rfl, rfl⟩
        cases T
        · clear z0 z1 z2 z3 y1 c1
          obtain ⟨B9, o9, hyo9, -, z0, z1, z3, y1, c1, z2, -⟩ := HNA.out.at_ HX.out
          cases hyo9
          go_wp2_with fail
          refine co.mono ?_
          clear co
          rintro e w5 ⟨rfl, hb5⟩
          have HO5 := Lib.hid (OwR.of_below (Γ := Γ) hb5)
          have HR5 := Lib.hid (HRW.out.below hb5)
          have HS5 := Lib.hid (Nat.le_trans HS.out hb5.size)
          clear hb5 z0 z1 z2 z3
          obtain ⟨B8, o8, hyo8, -, z0, z1, z3, y1, c1, z2, -⟩ := (HNA.out.owr HO5.out HLO.out.1).at_ HX.out
          cases hyo8
          cases W
          · have HDU : Hid (dupE (parV ρ (l.take i)) n1 p1 = []) := Lib.hid (by unfold dupE; rw [if_neg (by simp [HT.out, HOW.out])])
            have cD := rdefine_any Γ _ _ _ m _ fr1 ca1 (by rw [HDL.out]; have := HLD.out; omega) HR5.out HS5.out 0 n1 0
            go_wp2_with fail
            refine cD.mono ?_
            clear cD z0 z1 z2 z3
            rintro e w9 ⟨rfl, ho9, hr9⟩
            have HRES : Hid (RGo Γ w (parV ρ (l.take (i + 1))) m F fr ca (parE ρ (l.take (i + 1))) w9) := by
              show RGo _ _ _ _ _ _ _ _ _
              rw [HPV.out, HPE.out, HDU.out]
              have := RGo.comp (ρ1 := some (0, n1, 0) :: parV ρ (l.take i)) (e2 := []) HGO.out.1 HGO.out.2.1 HGO.out.2.2.1 HGO.out.2.2.2 ⟨HO5.out.trans ho9, fr1, ca1, (by show RW _ _ _ _ _ (Option.or _ none) _ _; rw [Option.or_none]; exact hr9), by simp, by simp, fun _ => ⟨rfl, rfl⟩⟩
              exact this
            have HB9 := Lib.hid (Nat.le_trans HS5.out ho9.size)
            clear ho9 hr9
            go_wp2_with fail
            go_roundg (gk - 1)
            case measure => omega
            case rel => exact ⟨i + 1, rfl, by omega, HRES.out, HB9.out⟩
          · have HDU : Hid (dupE (parV ρ (l.take i)) n1 p1 = [.bad 280 n1 p1]) := Lib.hid (by unfold dupE; rw [if_pos (by simp [HT.out, HOW.out])])
            have cW := rwrong_any Γ _ _ _ m _ fr1 ca1 HR5.out k1 n1 y1 l1'.length c1 p1 280
            go_wp2_with fail
            refine cW.mono ?_
            clear cW
            rintro e w6 ⟨rfl, ho6, hr6⟩
            have HR6 := Lib.hid hr6
            have HO6 := Lib.hid (HO5.out.trans ho6)
            have HS6 := Lib.hid (Nat.le_trans HS5.out ho6.size)
            have hz := ((HNA.out.owr HO6.out HLO.out.1).at_ HX.out)
            clear z0 z1 z2 z3
            obtain ⟨B', o', hyo', -, z0, z1, z3, y1', c1', z2, -⟩ := hz
            cases hyo'
            clear ho6 hr6
            have cD := rdefine_any Γ _ _ _ m _ fr1 ca1 (by rw [HDL.out]; have := HLD.out; omega) HR6.out HS6.out 0 n1 0
            go_wp2_with fail
            refine cD.mono ?_
            clear cD z0 z1 z2 z3
            rintro e w9 ⟨rfl, ho9, hr9⟩
            have HRES : Hid (RGo Γ w (parV ρ (l.take (i + 1))) m F fr ca (parE ρ (l.take (i + 1))) w9) := by
              show RGo _ _ _ _ _ _ _ _ _
              rw [HPV.out, HPE.out, HDU.out]
              have := RGo.comp (ρ1 := some (0, n1, 0) :: parV ρ (l.take i)) (e2 := [.bad 280 n1 p1]) HGO.out.1 HGO.out.2.1 HGO.out.2.2.1 HGO.out.2.2.2 ⟨HO6.out.trans ho9, fr1, ca1, hr9, by simp, by simp, fun _ => ⟨rfl, rfl⟩⟩
              exact this
            have HB9 := Lib.hid (Nat.le_trans HS6.out ho9.size)
            clear ho9 hr9
            go_wp2_with fail
            go_roundg (gk - 1)
            case measure => omega
            case rel => exact ⟨i + 1, rfl, by omega, HRES.out, HB9.out⟩
        · clear co
          have HDU : Hid (dupE (parV ρ (l.take i)) n1 p1 = [.bad 280 n1 p1]) := Lib.hid (by unfold dupE; rw [if_pos (by simp [HT.out, HOW.out])])
          have cW := rwrong_any Γ wr _ _ m _ fr1 ca1 HRW.out k1 n1 y1 l1'.length c1 p1 280
          go_wp2_with fail
          refine cW.mono ?_
          clear cW
          rintro e w6 ⟨rfl, ho6, hr6⟩
          have HR6 := Lib.hid hr6
          have HO6 := Lib.hid (HREF.out.trans ho6)
          have HS6 := Lib.hid (Nat.le_trans HS.out ho6.size)
          have hz := ((HNA.out.owr HO6.out HLO.out.1).at_ HX.out)
          clear z0 z1 z2 z3
          obtain ⟨B', o', hyo', -, z0, z1, z3, y1', c1', z2, -⟩ := hz
          cases hyo'
          clear ho6 hr6
          have cD := rdefine_any Γ _ _ _ m _ fr1 ca1 (by rw [HDL.out]; have := HLD.out; omega) HR6.out HS6.out 0 n1 0
          go_wp2_with fail
          refine cD.mono ?_
          clear cD z0 z1 z2 z3
          rintro e w9 ⟨rfl, ho9, hr9⟩
          have HRES : Hid (RGo Γ w (parV ρ (l.take (i + 1))) m F fr ca (parE ρ (l.take (i + 1))) w9) := by
            show RGo _ _ _ _ _ _ _ _ _
            rw [HPV.out, HPE.out, HDU.out]
            have := RGo.comp (ρ1 := some (0, n1, 0) :: parV ρ (l.take i)) (e2 := [.bad 280 n1 p1]) HGO.out.1 HGO.out.2.1 HGO.out.2.2.1 HGO.out.2.2.2 ⟨HO6.out.trans ho9, fr1, ca1, hr9, by simp, by simp, fun _ => ⟨rfl, rfl⟩⟩
            exact this
          have HB9 := Lib.hid (Nat.le_trans HS6.out ho9.size)
          clear ho9 hr9
          go_wp2_with fail
          go_roundg (gk - 1)
          case measure => omega
          case rel => exact ⟨i + 1, rfl, by omega, HRES.out, HB9.out⟩
    · have hlt' : ¬ (i : Int) < (len : Int) := by omega
      have HEND : Hid (RGo Γ w (parV ρ (l.take len)) m F fr ca (parE ρ l) wr) := Lib.hid (by
        have h1 : RGo Γ w (parV ρ (l.take i)) m F fr ca (parE ρ (l.take i)) wr := ⟨HGO.out.1, fr1, ca1, HRW.out, HGO.out.2.1, HGO.out.2.2.1, HGO.out.2.2.2⟩
        obtain rfl : i = len := by omega
        rwa [show parE ρ (l.take i) = parE ρ l by rw [List.take_of_length_le (by have := HLN.out; omega)]] at h1)
      clear how l1 l2 hall hrw hsz
      go_wp2_with fail
      go_end0
      exact ⟨rfl, len, Nat.le_refl _, HEND.out, .inl rfl⟩
end Go.Proofs.YtpbkeamjdolpgaaGreatDoor
namespace Go.Proofs.YtpbkeamjdolpgaaGreatDoor
open Go.RowKit Go.Lib

def RBd (ρ : Env) (m : Nat) (fr ca : List (List UInt8)) (N : Nat) : Prop := (defsE ρ).length + 2 * N < 2 ^ 40 ∧ depthE ρ + 2 * N < 2 ^ 40 ∧ fr.length + 2 * N < 2 ^ 40 ∧ ca.length + 2 * N < 2 ^ 40 ∧ m + 2 * N < 2 ^ 40
def StmtR (Γ : RCtx) (x : Nd) : Prop := ∀ (w : World) (ρ : Env) (m : Nat) (F : FltR) (fr ca : List (List UInt8)) (v : Value), NdVal w (fun b => b < Γ.B) x v → RW Γ w (defsE ρ) (depthE ρ) m F fr ca → Γ.B ≤ w.heap.size → ρ.all (·.isSome) = false → RBd ρ m fr ca (wtN x) →
  Calls Tryz.prog 185 #[.pointer (some ⟨Γ.wb, 0, none⟩), v] w fun e w' => e = .returned (.tuple #[]) ∧ RGo Γ w (envS ρ x) m F fr ca (evS x ρ m) w'
def BlockR (Γ : RCtx) (l : List Nd) : Prop := ∀ (w : World) (ρ : Env) (m : Nat) (F : FltR) (fr ca : List (List UInt8)) (k : Int) (n : List UInt8) (p : Int) (v : Value), NdVal w (fun b => b < Γ.B) (.mk k n l p) v → RW Γ w (defsE ρ) (depthE ρ) m F fr ca → Γ.B ≤ w.heap.size → RBd ρ m fr ca (wtL l + 1) →
  Calls Tryz.prog 145 #[.pointer (some ⟨Γ.wb, 0, none⟩), v] w fun e w' => e = .returned (.tuple #[]) ∧ RGo Γ w ρ m F fr ca (evSs l (none :: ρ) m) w'
theorem envS_defs (ρ : Env) (x : Nd) : ∃ t, defsE (envS ρ x) = defsE ρ ++ t ∧ t.length ≤ 1 ∧ depthE (envS ρ x) = depthE ρ ∧ (ρ.all (·.isSome) = false → (envS ρ x).all (·.isSome) = false) := by
  obtain ⟨k, n, kids, p⟩ := x
  have key : envS ρ (.mk k n kids p) = ρ ∨ ∃ d, envS ρ (.mk k n kids p) = some d :: ρ := by
    simp only [envS]
    by_cases k1 : k = 1
    · exact .inr ⟨_, if_pos k1⟩
    rw [if_neg k1]
    by_cases k2 : k = 2
    · exact .inr ⟨_, if_pos k2⟩
    rw [if_neg k2]
    by_cases k3 : k = 3
    · exact .inr ⟨_, if_pos k3⟩
    rw [if_neg k3]
    exact .inl rfl
  rcases key with h | ⟨⟨k', s', a⟩, h⟩
  · rw [h]
    exact ⟨[], by simp, by simp, rfl, fun h => h⟩
  · rw [h]
    exact ⟨[_], rfl, Nat.le_refl _, rfl, fun h => by simpa using h⟩
theorem envSs_defs : ∀ (l : List Nd) (ρ : Env), ∃ t, defsE (envSs ρ l) = defsE ρ ++ t ∧ t.length ≤ l.length ∧ depthE (envSs ρ l) = depthE ρ ∧ (ρ.all (·.isSome) = false → (envSs ρ l).all (·.isSome) = false)
  | [], ρ => ⟨[], by simp [envSs], by simp, rfl, fun h => h⟩
  | x :: r, ρ => by
    obtain ⟨t1, h1, h2, h3, h4⟩ := envS_defs ρ x
    obtain ⟨t2, g1, g2, g3, g4⟩ := envSs_defs r (envS ρ x)
    refine ⟨t1 ++ t2, ?_, ?_, g3.trans h3, fun h => g4 (h4 h)⟩
    · show defsE (envSs (envS ρ x) r) = _
      rw [g1, h1, List.append_assoc]
    · rw [List.length_append, List.length_cons]
      omega
theorem envSs_snoc (ρ : Env) (l : List Nd) (x : Nd) : envSs ρ (l ++ [x]) = envS (envSs ρ l) x := by simp [envSs]
set_option maxHeartbeats 4000000 in
set_option maxRecDepth 100000 in
theorem rblock_step (Γ : RCtx) (l : List Nd) (ih : ∀ x ∈ l, StmtR Γ x) : BlockR Γ l := by
  intro w ρ m F fr ca k n p v hv h hB hbd
  obtain ⟨y, cv, rfl, hrow⟩ := hv
  generalize cv.val = c
  clear cv
  have hA : Below w.heap.size w (w.alloc (.cells #[.int .i64 k, .string ⟨n.toArray⟩, .slice y l.length c, .int .i64 p] 53)) := (Below.refl _ _).alloc (Nat.le_refl _) _
  have HLO : Hid (Γ.B ≤ Γ.wb ∧ Γ.wb < w.heap.size) := by
    obtain ⟨dv, fp, fv, cv, h⟩ := h
    exact ⟨h.low, h.lt⟩
  have HB := Lib.hid (Box4.new w (.int .i64 k) (.string ⟨n.toArray⟩) (.slice y l.length c) (.int .i64 p))
  have ce := renter_any Γ _ _ _ m F fr ca (by have := hbd.2.1; omega) (h.below hA)
  have HA := Lib.hid hA
  have HROW := Lib.hid hrow
  have HIH := Lib.hid ih
  have HBD := Lib.hid hbd
  have HSB : Hid (Γ.B ≤ (w.alloc (.cells #[.int .i64 k, .string ⟨n.toArray⟩, .slice y l.length c, .int .i64 p] 53)).heap.size) := Lib.hid (by simp; omega)
  have hne : w.heap.size ≠ Γ.wb := by have := HLO.out; omega
  clear hA hrow ih hbd h hB
  go_enter Tryz.func145, Tryz.ntmps145
  go_wp2_with fail
  refine ce.mono ?_
  clear ce
  rintro e w1 ⟨rfl, ho1, hr1⟩
  obtain ⟨a, ha⟩ : ∃ a, w.heap.size = a := ⟨_, rfl⟩
  rw [ha] at HB hne ⊢
  have HO1 := Lib.hid ((OwR.of_below HA.out).trans ho1)
  have HR1 := Lib.hid hr1
  have HB1 := Lib.hid (HB.out.owr ho1 hne)
  have HS1 := Lib.hid (Nat.le_trans HSB.out ho1.size)
  obtain ⟨len, hlen⟩ : ∃ len, l.length = len := ⟨_, rfl⟩
  have HLN := Lib.hid hlen
  rw [hlen] at HB1 ⊢
  obtain ⟨dl, hdl⟩ : ∃ d, (defsE ρ).length = d := ⟨_, rfl⟩
  rw [hdl]
  have HDL := Lib.hid hdl
  have AA : len < 2 ^ 40 := by have := HBD.out.1; have := len_wtL l; omega
  clear ho1 hr1 HB HA HSB ha hlen hdl
  go_wp2_with fail
  go_loopg [5] len (fun g v wx => ∃ i : Nat, v = .int .i64 i ∧ i + g = len ∧ RGo Γ w (envSs (none :: ρ) (l.take i)) m F fr ca (evSs (l.take i) (none :: ρ) m) wx ∧ Box4 wx a (.int .i64 k) (.string ⟨n.toArray⟩) (.slice y len c) (.int .i64 p) ∧ Γ.B ≤ wx.heap.size)
  case atStart => exact ⟨0, rfl, by omega, by simpa [evSs, envSs] using RGo.start (ρ := none :: ρ) HO1.out HR1.out, HB1.out, HS1.out⟩
  case round =>
    clear HO1 HR1 HB1 HS1
    obtain ⟨i, rfl, hi, hgo, hbx, hsz⟩ := hrel
    obtain ⟨how, fr1, ca1, hrw, l1, l2, hall⟩ := hgo
    obtain ⟨x0, x1, x2, x3, xf⟩ := hbx.facts
    obtain ⟨td, t1, t2, t3, t4⟩ := envSs_defs (l.take i) (none :: ρ)
    have HBX := Lib.hid (⟨hbx, hsz⟩ : _ ∧ _)
    have HGO := Lib.hid (⟨how, l1, l2, hall⟩ : _ ∧ _ ∧ _ ∧ _)
    have HRW := Lib.hid hrw
    have HTD := Lib.hid (⟨t1, t2, t3, t4 rfl⟩ : _ ∧ _ ∧ _ ∧ _)
    -- the block's end
    have HLV : Hid (∀ (W : World) (F' : FltR) (fr' ca' : List (List UInt8)), RW Γ W (defsE (envSs (none :: ρ) (l.take i))) (depthE (envSs (none :: ρ) (l.take i))) m F' fr' ca' → Calls Tryz.prog 186 #[.pointer (some ⟨Γ.wb, 0, none⟩), .int .i64 dl] W fun e w' => e = .returned (.tuple #[]) ∧ OwR Γ W w' ∧ RW Γ w' (defsE ρ) (depthE ρ) m F' fr' ca') := Lib.hid fun W F' fr' ca' hrw => by
      have h1 := HTD.out.1
      rw [HTD.out.2.2.1, show depthE (none :: ρ) = depthE ρ + 1 from rfl] at hrw
      have := rleave_any Γ W _ _ m F' fr' ca' (by have := HBD.out.2.1; omega) hrw dl (by rw [h1, List.length_append, show defsE (none :: ρ) = defsE ρ from rfl, HDL.out]; omega)
      rw [h1, show defsE (none :: ρ) = defsE ρ from rfl, List.take_append_of_le_length (by rw [HDL.out]; exact Nat.le_refl _), List.take_of_length_le (by rw [HDL.out]; exact Nat.le_refl _)] at this
      exact this
    clear t1 t2 t3 t4
    by_cases hlt : i < len
    · obtain ⟨x, hx⟩ : ∃ x, l[i]? = some x := ⟨l[i]'(by have := HLN.out; omega), List.getElem?_eq_getElem _⟩
      have hmem := List.mem_of_getElem? hx
      obtain ⟨B, o, hyo, hat⟩ := (HROW.out.owr how HLO.out.1).at_ hx
      subst hyo
      have htk : l.take (i + 1) = l.take i ++ [x] := by rw [List.take_add_one, hx]; rfl
      have henv : envSs (none :: ρ) (l.take (i + 1)) = envS (envSs (none :: ρ) (l.take i)) x := by rw [htk, envSs_snoc]
      have hevs : evSs (l.take (i + 1)) (none :: ρ) m = evSs (l.take i) (none :: ρ) m ++ evS x (envSs (none :: ρ) (l.take i)) m := by
        rw [htk, evSs_app]
        simp [evSs]
      have hcat : evSs l (none :: ρ) m = evSs (l.take i) (none :: ρ) m ++ evSs (l.drop i) (envSs (none :: ρ) (l.take i)) m := by
        conv => lhs; rw [← List.take_append_drop i l]
        exact evSs_app _ _ _ _
      have hbd : RBd (envSs (none :: ρ) (l.take i)) m fr1 ca1 (wtN x) := by
        have h1 := wtL_app (l.take (i + 1)) (l.drop (i + 1))
        rw [List.take_append_drop, htk, wtL_app] at h1
        have h2 : wtL [x] = wtN x := rfl
        have h3 := HTD.out.1
        have h4 := HTD.out.2.1
        have h5 := len_wtL (l.take i)
        have h6 := evSs_len (l.take i) (none :: ρ) m
        obtain ⟨b1, b2, b3, b4, b5⟩ := HBD.out
        refine ⟨?_, ?_, ?_, ?_, ?_⟩
        · rw [h3, List.length_append, show defsE (none :: ρ) = defsE ρ from rfl]
          omega
        · rw [HTD.out.2.2.1, show depthE (none :: ρ) = depthE ρ + 1 from rfl]
          omega
        · omega
        · omega
        · omega
      have HSN := Lib.hid (⟨henv, hevs, hcat⟩ : _ ∧ _ ∧ _)
      have HX := Lib.hid (HIH.out _ hmem)
      clear hmem hx htk henv hevs hcat
      obtain ⟨k1, n1, l1', p1⟩ := x
      obtain ⟨-, z0, z1, z3, y1, c1, z2, hk1⟩ := hat
      have cx := HX.out wr _ m _ fr1 ca1 (.agg #[.int .i64 k1, .string ⟨n1.toArray⟩, .slice y1 l1'.length c1, .int .i64 p1]) ⟨y1, c1, rfl, hk1⟩ hrw hsz HTD.out.2.2.2 hbd
      have hlt' : (i : Int) < (len : Int) := by omega
      have Qi1 : IntKind.i64.wrap ((i : Int) + 1) = (i : Int) + 1 := IntWalk.i64_in _ (by omega)
      have c0 := ron_any Γ wr _ _ m _ fr1 ca1 hrw
      obtain ⟨O, hO⟩ : ∃ O, (Γ.all || (F.or (wrongE (evSs (l.take i) (none :: ρ) m))).isNone) = O := ⟨_, rfl⟩
      rw [hO] at c0
      have HO := Lib.hid hO
      have cl := HLV.out wr _ _ _ hrw
      clear hk1 hO how l1 l2 hall hrw hbx hsz hbd
      cases O
      · clear cx z0 z1 z2 z3
        go_wp2_with fail
        refine c0.mono ?_
        clear c0
        rintro e w1 ⟨rfl, rfl⟩
        go_wp2_with fail
        refine cl.mono ?_
        clear cl
        rintro e w9 ⟨rfl, ho9, hr9⟩
        have HEND : Hid (RGo Γ w ρ m F fr ca (evSs l (none :: ρ) m) w9) := Lib.hid (by
          have h1 := HGO.out
          have := RGo.skip (e1 := evSs (l.take i) (none :: ρ) m) (ρ := ρ) ⟨h1.1.trans ho9, fr1, ca1, hr9, h1.2.1, h1.2.2.1, h1.2.2.2⟩ HO.out (evSs (l.drop i) (envSs (none :: ρ) (l.take i)) m)
          rwa [← HSN.out.2.2] at this)
        clear ho9 hr9
        go_wp2_with fail
        go_end0
        exact ⟨rfl, HEND.out⟩
      · clear cl
        go_wp2_with fail
        refine c0.mono ?_
        clear c0
        rintro e w1 ⟨rfl, rfl⟩
        go_wp2_with fail
        refine cx.mono ?_
        clear cx z0 z1 z2 z3 x0 x1 x2 x3 xf
        rintro e w2 ⟨rfl, hres⟩
        have HRES : Hid (RGo Γ w (envSs (none :: ρ) (l.take (i + 1))) m F fr ca (evSs (l.take (i + 1)) (none :: ρ) m) w2) := by
          show RGo _ _ _ _ _ _ _ _ _
          rw [HSN.out.1, HSN.out.2.1]
          exact RGo.comp HGO.out.1 HGO.out.2.1 HGO.out.2.2.1 HGO.out.2.2.2 hres
        have HB2 := Lib.hid (⟨HBX.out.1.owr hres.1 hne, Nat.le_trans HBX.out.2 hres.1.size⟩ : _ ∧ _)
        clear hres
        go_wp2_with fail
        go_roundg (gk - 1)
        case measure => omega
        case rel => exact ⟨i + 1, rfl, by omega, HRES.out, HB2.out⟩
    · have hlt' : ¬ (i : Int) < (len : Int) := by omega
      have cl := HLV.out wr _ _ _ hrw
      have hall' : l.take i = l := List.take_of_length_le (by have := HLN.out; omega)
      clear how l1 l2 hall hrw hbx hsz
      go_wp2_with fail
      refine cl.mono ?_
      clear cl
      rintro e w9 ⟨rfl, ho9, hr9⟩
      have HEND : Hid (RGo Γ w ρ m F fr ca (evSs l (none :: ρ) m) w9) := Lib.hid (by
        have h1 := HGO.out
        rw [hall'] at h1 hr9
        exact ⟨h1.1.trans ho9, fr1, ca1, hr9, h1.2.1, h1.2.2.1, h1.2.2.2⟩)
      clear ho9 hr9
      go_wp2_with fail
      go_end0
      exact ⟨rfl, HEND.out⟩
end Go.Proofs.YtpbkeamjdolpgaaGreatDoor
namespace Go.Proofs.YtpbkeamjdolpgaaGreatDoor
open Go.RowKit Go.Lib

def RBe (ρ : Env) (m : Nat) (fr ca : List (List UInt8)) (e N : Nat) : Prop := (defsE ρ).length + 2 * N < 2 ^ 40 ∧ depthE ρ + 2 * N < 2 ^ 40 ∧ fr.length + e + 2 * N < 2 ^ 40 ∧ ca.length + e + 2 * N < 2 ^ 40 ∧ m + 2 * N < 2 ^ 40
section
variable {Γ : RCtx} {w w1 w2 : World} {ρ : Env} {m : Nat} {F : FltR} {fr ca : List (List UInt8)} {e1 : List Ev}
theorem RGo.split (h : RGo Γ w ρ m F fr ca e1 w1) : ∃ fr1 ca1, RW Γ w1 (defsE ρ) (depthE ρ) m (F.or (wrongE e1)) fr1 ca1 ∧ fr1.length ≤ fr.length + e1.length ∧ ca1.length ≤ ca.length + e1.length ∧
    ∀ w2 ρ2 m2 e2, RGo Γ w1 ρ2 m2 (F.or (wrongE e1)) fr1 ca1 e2 w2 → RGo Γ w ρ2 m2 F fr ca (e1 ++ e2) w2 := by
  obtain ⟨h1, fr1, ca1, h2, h3, h4, h5⟩ := h
  exact ⟨fr1, ca1, h2, h3, h4, fun w2 ρ2 m2 e2 h => RGo.comp h1 h3 h4 h5 h⟩
theorem RGo.turn (h : RGo Γ w ρ m F fr ca e1 w1) (ho : OwR Γ w1 w2) {ρ2 : Env} {m2 : Nat} (hs : ∀ fr1 ca1, RW Γ w1 (defsE ρ) (depthE ρ) m (F.or (wrongE e1)) fr1 ca1 → RW Γ w2 (defsE ρ2) (depthE ρ2) m2 (F.or (wrongE e1)) fr1 ca1) : RGo Γ w ρ2 m2 F fr ca e1 w2 := by
  obtain ⟨h1, fr1, ca1, h2, h3, h4, h5⟩ := h
  exact ⟨h1.trans ho, fr1, ca1, hs _ _ h2, h3, h4, h5⟩
theorem RGo.below (h : RGo Γ w ρ m F fr ca e1 w1) (hb : Below w1.heap.size w1 w2) : RGo Γ w ρ m F fr ca e1 w2 := h.turn (.of_below hb) fun _ _ hr => hr.below hb
theorem RGo.on1 (h : RGo Γ w ρ m F fr ca e1 w1) : Calls Tryz.prog 184 #[.pointer (some ⟨Γ.wb, 0, none⟩)] w1 fun e w' => e = .returned (.bool (onR Γ (F.or (wrongE e1)))) ∧ w1 = w' := by
  obtain ⟨fr1, ca1, hr, -⟩ := h.split
  exact ron_any Γ w1 _ _ m _ fr1 ca1 hr
theorem RGo.wrong1 (h : RGo Γ w ρ m F fr ca e1 w1) (k : Int) (n : List UInt8) (y : Option Addr) (len c : Nat) (p code : Int) :
    Calls Tryz.prog 223 #[.pointer (some ⟨Γ.wb, 0, none⟩), .agg #[.int .i64 k, .string ⟨n.toArray⟩, .slice y len c, .int .i64 p], .int .i64 code] w1 fun e w' => e = .returned (.tuple #[]) ∧ OwR Γ w1 w' ∧ RGo Γ w ρ m F fr ca (e1 ++ [.bad code n p]) w' := by
  obtain ⟨fr1, ca1, hr, -, -, hc⟩ := h.split
  refine (rwrong_any Γ w1 _ _ m _ fr1 ca1 hr k n y len c p code).mono ?_
  rintro e w2 ⟨rfl, ho, hr2⟩
  exact ⟨rfl, ho, hc _ _ _ _ (RGo.bad ho hr2)⟩
theorem RGo.free1 (h : RGo Γ w ρ m F fr ca e1 w1) (hl : fr.length + e1.length < 2 ^ 40) (k : Int) (n : List UInt8) (y : Option Addr) (len c : Nat) (p : Int) :
    Calls Tryz.prog 242 #[.pointer (some ⟨Γ.wb, 0, none⟩), .agg #[.int .i64 k, .string ⟨n.toArray⟩, .slice y len c, .int .i64 p]] w1 fun e w' => e = .returned (.tuple #[]) ∧ OwR Γ w1 w' ∧ RGo Γ w ρ m F fr ca (e1 ++ [.miss n p]) w' := by
  obtain ⟨fr1, ca1, hr, h1, -, hc⟩ := h.split
  refine (rfree_any Γ w1 _ _ m _ fr1 ca1 (by omega) hr k n y len c p).mono ?_
  rintro e w2 ⟨rfl, ho, hr2⟩
  exact ⟨rfl, ho, hc _ _ _ _ (RGo.miss ho hr2)⟩
theorem RGo.expr1 (h : RGo Γ w ρ m F fr ca e1 w1) {x : Nd} (hx : ExprR Γ x) {v : Value} (hv : NdVal w1 (fun b => b < Γ.B) x v) (hB : Γ.B ≤ w1.heap.size) (hD : (defsE ρ).length < 2 ^ 40)
    (hf : fr.length + e1.length + (evE ρ x).length < 2 ^ 40) (hc : ca.length + e1.length + (evE ρ x).length < 2 ^ 40) :
    Calls Tryz.prog 224 #[.pointer (some ⟨Γ.wb, 0, none⟩), v] w1 fun e w' => e = .returned (.tuple #[]) ∧ OwR Γ w1 w' ∧ RGo Γ w ρ m F fr ca (e1 ++ evE ρ x) w' := by
  obtain ⟨fr1, ca1, hr, h1, h2, hcm⟩ := h.split
  refine (hx w1 ρ m _ fr1 ca1 v hv hr hB hD (by omega) (by omega)).mono ?_
  rintro e w2 ⟨rfl, hg⟩
  exact ⟨rfl, hg.own, hcm _ _ _ _ hg⟩
theorem RGo.block1 (h : RGo Γ w ρ m F fr ca e1 w1) {l : List Nd} (hx : BlockR Γ l) {k : Int} {n : List UInt8} {p : Int} {v : Value} (hv : NdVal w1 (fun b => b < Γ.B) (.mk k n l p) v) (hB : Γ.B ≤ w1.heap.size) (hbd : RBe ρ m fr ca e1.length (wtL l + 1)) :
    Calls Tryz.prog 145 #[.pointer (some ⟨Γ.wb, 0, none⟩), v] w1 fun e w' => e = .returned (.tuple #[]) ∧ OwR Γ w1 w' ∧ RGo Γ w ρ m F fr ca (e1 ++ evSs l (none :: ρ) m) w' := by
  obtain ⟨fr1, ca1, hr, h1, h2, hcm⟩ := h.split
  obtain ⟨b1, b2, b3, b4, b5⟩ := hbd
  refine (hx w1 ρ m _ fr1 ca1 k n p v hv hr hB ⟨by omega, by omega, by omega, by omega, by omega⟩).mono ?_
  rintro e w2 ⟨rfl, hg⟩
  exact ⟨rfl, hg.own, hcm _ _ _ _ hg⟩
theorem RGo.define1 (h : RGo Γ w ρ m F fr ca e1 w1) (hl : (defsE ρ).length < 2 ^ 40) (hB : Γ.B ≤ w1.heap.size) (k : Nat) (s : List UInt8) (ar : Nat) :
    Calls Tryz.prog 225 #[.pointer (some ⟨Γ.wb, 0, none⟩), .int .i64 k, .string ⟨s.toArray⟩, .int .i64 ar] w1 fun e w' => e = .returned (.tuple #[]) ∧ OwR Γ w1 w' ∧ RGo Γ w (some (k, s, ar) :: ρ) m F fr ca e1 w' := by
  obtain ⟨h1, fr1, ca1, h2, h3, h4, h5⟩ := h
  refine (rdefine_any Γ w1 _ _ m _ fr1 ca1 hl h2 hB k s ar).mono ?_
  rintro e w2 ⟨rfl, ho, hr2⟩
  exact ⟨rfl, ho, h1.trans ho, fr1, ca1, hr2, h3, h4, h5⟩
theorem RGo.enter1 (h : RGo Γ w ρ m F fr ca e1 w1) (hd : depthE ρ < 2 ^ 40) :
    Calls Tryz.prog 183 #[.pointer (some ⟨Γ.wb, 0, none⟩)] w1 fun e w' => e = .returned (.int .i64 (defsE ρ).length) ∧ OwR Γ w1 w' ∧ RGo Γ w (none :: ρ) m F fr ca e1 w' := by
  obtain ⟨h1, fr1, ca1, h2, h3, h4, h5⟩ := h
  refine (renter_any Γ w1 _ _ m _ fr1 ca1 hd h2).mono ?_
  rintro e w2 ⟨rfl, ho, hr2⟩
  exact ⟨rfl, ho, h1.trans ho, fr1, ca1, hr2, h3, h4, h5⟩
theorem RGo.leave1 (h : RGo Γ w ρ m F fr ca e1 w1) {σ : Env} {t : List DefR} (hd : depthE σ < 2 ^ 40) (h1 : depthE ρ = depthE σ + 1) (h2 : defsE ρ = defsE σ ++ t) :
    Calls Tryz.prog 186 #[.pointer (some ⟨Γ.wb, 0, none⟩), .int .i64 (defsE σ).length] w1 fun e w' => e = .returned (.tuple #[]) ∧ OwR Γ w1 w' ∧ RGo Γ w σ m F fr ca e1 w' := by
  obtain ⟨g1, fr1, ca1, g2, g3, g4, g5⟩ := h
  rw [h1, h2] at g2
  refine (rleave_any Γ w1 _ _ m _ fr1 ca1 hd g2 (defsE σ).length (by simp)).mono ?_
  rintro e w2 ⟨rfl, ho, hr2⟩
  rw [List.take_left] at hr2
  exact ⟨rfl, ho, g1.trans ho, fr1, ca1, hr2, g3, g4, g5⟩
theorem RGo.own1 (h : RGo Γ w ρ m F fr ca e1 w1) (hl : (defsE ρ).length < 2 ^ 40) (ha : ρ.all (·.isSome) = false) (k : Nat) (s : List UInt8) :
    Calls Tryz.prog 222 #[.pointer (some ⟨Γ.wb, 0, none⟩), .int .i64 k, .string ⟨s.toArray⟩] w1 fun e w' => e = .returned (.bool (findE ρ k s true).isSome) ∧ OwR Γ w1 w' ∧ RGo Γ w ρ m F fr ca e1 w' := by
  obtain ⟨fr1, ca1, hr, -⟩ := h.split
  refine (rown_any Γ w1 _ _ m _ fr1 ca1 hl hr k s).mono ?_
  rintro e w2 ⟨rfl, hb⟩
  rw [own_find _ _ _ ha]
  exact ⟨rfl, .of_below hb, h.below hb⟩
theorem RGo.find1 (h : RGo Γ w ρ m F fr ca e1 w1) (hl : (defsE ρ).length < 2 ^ 40) (k : Nat) (s : List UInt8) :
    Calls Tryz.prog 241 #[.pointer (some ⟨Γ.wb, 0, none⟩), .int .i64 k, .string ⟨s.toArray⟩] w1 fun e w' => e = .returned (.tuple #[dfV (lastD k s (defsE ρ)), .bool (lastD k s (defsE ρ)).isSome]) ∧ Below w1.heap.size w1 w' := by
  obtain ⟨fr1, ca1, hr, -⟩ := h.split
  exact rfind_any Γ w1 _ _ m _ fr1 ca1 hl hr k s
theorem RGo.params1 (h : RGo Γ w ρ m F fr ca e1 w1) {l : List Nd} {y : Option Addr} {c : Nat} (hv : NdRow w1 (fun b => b < Γ.B) l y) (hB : Γ.B ≤ w1.heap.size) (ha : ρ.all (·.isSome) = false) (hl : (defsE ρ).length + l.length < 2 ^ 40) :
    Calls Tryz.prog 245 #[.pointer (some ⟨Γ.wb, 0, none⟩), .slice y l.length c] w1 fun e w' => e = .returned (.tuple #[]) ∧ OwR Γ w1 w' ∧ ∃ j, j ≤ l.length ∧ RGo Γ w (parV ρ (l.take j)) m F fr ca (e1 ++ parE ρ l) w' ∧ (j = l.length ∨ onR Γ (F.or (wrongE (e1 ++ parE ρ l))) = false) := by
  obtain ⟨fr1, ca1, hr, -, -, hc⟩ := h.split
  refine (rpar28_any Γ l w1 ρ m _ fr1 ca1 y c hv hr hB ha hl).mono ?_
  rintro e w2 ⟨rfl, j, hj, hg, hor⟩
  refine ⟨rfl, hg.own, j, hj, hc _ _ _ _ hg, ?_⟩
  rwa [wrongE_app, ← Option.or_assoc]
theorem RGo.setIn1 (h : RGo Γ w ρ m F fr ca e1 w1) (n : Nat) : RGo Γ w ρ n F fr ca e1 (w1.setCell ⟨Γ.wb, 2, none⟩ (.int .i64 n)) :=
  h.turn ((OwR.refl _ _).setCell _ _) fun _ _ ⟨_, _, _, _, hr⟩ => ⟨_, _, _, _, hr.setIn n⟩
theorem RGo.in_ (h : RGo Γ w ρ m F fr ca e1 w1) : w1.cell? ⟨Γ.wb, 2, none⟩ = some (.int .i64 m) ∧ ∀ o, w1.frozen? ⟨Γ.wb, o, none⟩ = false := by
  obtain ⟨_, _, _, ⟨_, _, _, _, hr⟩, -⟩ := h
  obtain ⟨-, -, x2, -, -, -, -, xf⟩ := hr.cells
  exact ⟨x2, xf⟩
end
theorem parV_defs : ∀ (l : List Nd) (ρ : Env), ∃ t, defsE (parV ρ l) = defsE ρ ++ t
  | [], ρ => ⟨[], by simp [parV]⟩
  | .mk _ n _ _ :: r, ρ => by
    obtain ⟨t, ht⟩ := parV_defs r (some (0, n, 0) :: ρ)
    refine ⟨(0, n, 0, depthE ρ) :: t, ?_⟩
    show defsE (parV (some (0, n, 0) :: ρ) r) = _
    rw [ht]
    simp [defsE]
theorem NdAt.facts {w : World} {ok : Nat → Prop} {k : Int} {n : List UInt8} {l : List Nd} {p : Int} {b o : Nat} (h : NdAt w ok (.mk k n l p) b o) : ∃ (y : Option Addr) (c : Nat), w.cell? ⟨b, o, none⟩ = some (.int .i64 k) ∧ w.cell? ⟨b, o + 1, none⟩ = some (.string ⟨n.toArray⟩) ∧
    w.cell? ⟨b, o + 2, none⟩ = some (.slice y l.length c) ∧ w.cell? ⟨b, o + 3, none⟩ = some (.int .i64 p) ∧ NdRow w ok l y ∧ NdVal w ok (.mk k n l p) (.agg #[.int .i64 k, .string ⟨n.toArray⟩, .slice y l.length c, .int .i64 p]) := by
  obtain ⟨-, z0, z1, z3, y1, c1, z2, hk1⟩ := h
  exact ⟨y1, c1, z0, z1, z2, z3, hk1, y1, c1, rfl, hk1⟩
end Go.Proofs.YtpbkeamjdolpgaaGreatDoor
namespace Go.Proofs.YtpbkeamjdolpgaaGreatDoor
open Go.RowKit Go.Lib

set_option maxHeartbeats 4000000 in
set_option maxRecDepth 100000 in
theorem rstmt1 (Γ : RCtx) (n : List UInt8) (x : Nd) (p : Int) (hX : ExprR Γ x) : StmtR Γ (.mk 1 n [x] p) := by
  intro w ρ m F fr ca v hv h hB hall hbd
  obtain ⟨y, cv, rfl, hrow⟩ := hv
  generalize cv.val = c
  clear cv
  rw [show [x].length = 1 from rfl]
  have hA : Below w.heap.size w (w.alloc (.cells #[.int .i64 1, .string ⟨n.toArray⟩, .slice y (1 : Nat) c, .int .i64 p] 53)) := (Below.refl _ _).alloc (Nat.le_refl _) _
  have HLO : Hid (Γ.B ≤ Γ.wb ∧ Γ.wb < w.heap.size) := by
    obtain ⟨dv, fp, fv, cv, h⟩ := h
    exact ⟨h.low, h.lt⟩
  have H0 := Lib.hid (RGo.start (OwR.of_below hA) (h.below hA))
  have HB := Lib.hid (Box4.new w (.int .i64 1) (.string ⟨n.toArray⟩) (.slice y (1 : Nat) c) (.int .i64 p))
  have HROW := Lib.hid hrow
  have HALL := Lib.hid hall
  have HBD := Lib.hid hbd
  have HX := Lib.hid hX
  have HSB : Hid (Γ.B ≤ (w.alloc (.cells #[.int .i64 1, .string ⟨n.toArray⟩, .slice y (1 : Nat) c, .int .i64 p] 53)).heap.size) := Lib.hid (by simp; omega)
  have hne : w.heap.size ≠ Γ.wb := by have := HLO.out; omega
  clear hA hrow hall hbd hX h hB
  go_enter Tryz.func185, Tryz.ntmps185
  go_upto_region 1 with (fail)
  obtain ⟨a, ha⟩ : ∃ a, w.heap.size = a := ⟨_, rfl⟩
  rw [ha] at HB hne ⊢
  clear ha
  generalize World.alloc w (.cells #[.int .i64 1, .string ⟨n.toArray⟩, .slice y (1 : Nat) c, .int .i64 p] 53) = W at H0 HB HSB ⊢
  obtain ⟨x0, x1, x2, x3, xf⟩ := HB.out.facts
  go_upto_region 3 with (fail)
  go_cut [18] from 11 to 18 (fun v wx => v = .bool ((findE ρ 0 n true).isSome || truthB n) ∧ RGo Γ w ρ m F fr ca [] wx ∧ Box4 wx a (.int .i64 1) (.string ⟨n.toArray⟩) (.slice y (1 : Nat) c) (.int .i64 p) ∧ Γ.B ≤ wx.heap.size)
  case first =>
    have ct := rtruth_any n W
    have co := H0.out.own1 (by have := HBD.out.1; omega) HALL.out 0 n
    have HK : Hid (∀ w5, OwR Γ W w5 → Box4 w5 a (.int .i64 1) (.string ⟨n.toArray⟩) (.slice y (1 : Nat) c) (.int .i64 p) ∧ Γ.B ≤ w5.heap.size) := Lib.hid fun w5 ho => ⟨HB.out.owr ho hne, Nat.le_trans HSB.out ho.size⟩
    obtain ⟨T, hT⟩ : ∃ T, truthB n = T := ⟨_, rfl⟩
    rw [hT] at ct
    have HT := Lib.hid hT
    obtain ⟨O, hO⟩ : ∃ O, (findE ρ 0 n true).isSome = O := ⟨_, rfl⟩
    rw [hO] at co
    have HO := Lib.hid hO
    clear hT hO
    go_wp2_with fail
    refine ct.mono ?_
    clear ct
    rintro e w1 ⟨rfl, rfl⟩
    cases T
    · go_wp2_with fail
      refine co.mono ?_
      clear co x0 x1 x2 x3 xf
      rintro e w5 ⟨rfl, ho5, hg5⟩
      have H5 := Lib.hid (⟨ho5, hg5⟩ : _ ∧ _)
      clear ho5 hg5
      go_wp2_with fail
      go_meet
      exact ⟨by rw [HT.out, HO.out, Bool.or_false], H5.out.2, HK.out _ H5.out.1⟩
    · clear co
      go_wp2_with fail
      go_meet
      exact ⟨by rw [HT.out, Bool.or_true], H0.out, HB.out, HSB.out⟩
  case rest =>
  clear x0 x1 x2 x3 xf H0 HB HSB
  obtain ⟨rfl, hg, hbx, hsz⟩ := hcut
  obtain ⟨D, hD⟩ : ∃ D, ((findE ρ 0 n true).isSome || truthB n) = D := ⟨_, rfl⟩
  have HDU : Hid (dupE ρ n p = if D then [.bad 280 n p] else []) := Lib.hid (by unfold dupE; rw [hD])
  rw [hD]
  have H0 := Lib.hid hg
  have HB := Lib.hid hbx
  have HSB := Lib.hid hsz
  clear hD hg hbx hsz
  go_upto_if 18 with (fail)
  go_cut [] from 19 to 21 (fun wx => RGo Γ w ρ m F fr ca (dupE ρ n p) wx ∧ Box4 wx a (.int .i64 1) (.string ⟨n.toArray⟩) (.slice y (1 : Nat) c) (.int .i64 p) ∧ Γ.B ≤ wx.heap.size)
  case first =>
    obtain ⟨x0, x1, x2, x3, xf⟩ := HB.out.facts
    cases D
    · go_wp2_with fail
      go_meet
      exact ⟨by rw [HDU.out]; exact H0.out, HB.out, HSB.out⟩
    · have cW := H0.out.wrong1 1 n y 1 c p 280
      go_wp2_with fail
      refine cW.mono ?_
      clear cW x0 x1 x2 x3 xf
      rintro e w6 ⟨rfl, ho6, hg6⟩
      have H6 := Lib.hid (⟨hg6, HB.out.owr ho6 hne, Nat.le_trans HSB.out ho6.size⟩ : _ ∧ _ ∧ _)
      clear ho6 hg6
      go_wp2_with fail
      go_meet
      exact ⟨by rw [HDU.out]; exact H6.out.1, H6.out.2⟩
  case rest =>
    obtain ⟨hg, hbx, hsz⟩ := hcut
    have HG := Lib.hid (⟨hg, hbx, hsz⟩ : _ ∧ _ ∧ _)
    clear H0 HB HSB
    obtain ⟨x0, x1, x2, x3, xf⟩ := hbx.facts
    obtain ⟨B, o, rfl, hat, -⟩ := HROW.out.owr hg.own HLO.out.1
    obtain ⟨k1, n1, l1, p1⟩ := x
    obtain ⟨y1, c1, z0, z1, z2, z3, -, hv1⟩ := hat.facts
    have HLN : Hid ((dupE ρ n p).length ≤ 1 ∧ (evE ρ (.mk k1 n1 l1 p1)).length ≤ 2 * wtN (.mk k1 n1 l1 p1) ∧ wtN (.mk 1 n [.mk k1 n1 l1 p1] p) = wtL [.mk k1 n1 l1 p1] + n.length + 1 ∧ wtL [.mk k1 n1 l1 p1] = wtN (.mk k1 n1 l1 p1)) := Lib.hid ⟨dupE_len _ _ _, evE_len _ _, by rw [wtN_mk], rfl⟩
    have cx := hg.expr1 HX.out hv1 hsz (by have := HBD.out.1; omega) (by have := HBD.out.2.2.1; have := HLN.out; omega) (by have := HBD.out.2.2.2.1; have := HLN.out; omega)
    clear hg hbx hsz hat hv1 HROW
    go_wp2_with fail
    refine cx.mono ?_
    clear cx x0 x1 x2 x3 xf z0 z1 z2 z3
    rintro e w2 ⟨rfl, ho2, hg2⟩
    obtain ⟨x0, x1, x2, x3, xf⟩ := (HG.out.2.1.owr ho2 hne).facts
    have cd := hg2.define1 (by have := HBD.out.1; omega) (Nat.le_trans HG.out.2.2 ho2.size) 0 n 0
    clear ho2 hg2
    go_wp2_with fail
    refine cd.mono ?_
    clear cd x0 x1 x2 x3 xf
    rintro e w3 ⟨rfl, ho3, hg3⟩
    have HEND : Hid (RGo Γ w (envS ρ (.mk 1 n [.mk k1 n1 l1 p1] p)) m F fr ca (evS (.mk 1 n [.mk k1 n1 l1 p1] p) ρ m) w3) := Lib.hid (by
      rw [evS, if_pos rfl, evEs, evEs, List.append_nil]
      exact hg3)
    clear ho3 hg3
    go_wp2_with fail
    go_end0
    exact ⟨rfl, HEND.out⟩
set_option maxHeartbeats 4000000 in
set_option maxRecDepth 100000 in
theorem rstmt5 (Γ : RCtx) (n : List UInt8) (x b : Nd) (p : Int) (hX : ExprR Γ x) (hY : BlockR Γ b.kids) : StmtR Γ (.mk 5 n [x, b] p) := by
  intro w ρ m F fr ca v hv h hB hall hbd
  obtain ⟨y, cv, rfl, hrow⟩ := hv
  generalize cv.val = c
  clear cv
  rw [show [x, b].length = 2 from rfl]
  have hA : Below w.heap.size w (w.alloc (.cells #[.int .i64 5, .string ⟨n.toArray⟩, .slice y (2 : Nat) c, .int .i64 p] 53)) := (Below.refl _ _).alloc (Nat.le_refl _) _
  have HLO : Hid (Γ.B ≤ Γ.wb ∧ Γ.wb < w.heap.size) := by
    obtain ⟨dv, fp, fv, cv, h⟩ := h
    exact ⟨h.low, h.lt⟩
  have H0 := Lib.hid (RGo.start (OwR.of_below hA) (h.below hA))
  have HB := Lib.hid (Box4.new w (.int .i64 5) (.string ⟨n.toArray⟩) (.slice y (2 : Nat) c) (.int .i64 p))
  have HROW := Lib.hid hrow
  have HALL := Lib.hid hall
  have HBD := Lib.hid hbd
  have HSB : Hid (Γ.B ≤ (w.alloc (.cells #[.int .i64 5, .string ⟨n.toArray⟩, .slice y (2 : Nat) c, .int .i64 p] 53)).heap.size) := Lib.hid (by simp; omega)
  have hne : w.heap.size ≠ Γ.wb := by have := HLO.out; omega
  clear hA hrow hall hbd h hB
  go_enter Tryz.func185, Tryz.ntmps185
  go_upto_region 1 with (fail)
  obtain ⟨a, ha⟩ : ∃ a, w.heap.size = a := ⟨_, rfl⟩
  rw [ha] at HB hne ⊢
  clear ha
  generalize World.alloc w (.cells #[.int .i64 5, .string ⟨n.toArray⟩, .slice y (2 : Nat) c, .int .i64 p] 53) = W at H0 HB HSB ⊢
  have HX := Lib.hid hX
  have HY := Lib.hid hY
  clear hX hY
  obtain ⟨k1, n1, l1, p1⟩ := x
  obtain ⟨k2, n2, l2, p2⟩ := b
  obtain ⟨D, hD⟩ : ∃ D, truthB n = D := ⟨_, rfl⟩
  obtain ⟨DU, hDU⟩ : ∃ DU : List Ev, (if D then [.bad 280 n p] else []) = DU := ⟨_, rfl⟩
  have HDU := Lib.hid hDU
  have HEV : Hid (evS (.mk 5 n [.mk k1 n1 l1 p1, .mk k2 n2 l2 p2] p) ρ m = (DU ++ evE ρ (.mk k1 n1 l1 p1)) ++ evSs l2 (none :: some (0, n, 0) :: none :: ρ) m) := Lib.hid (by
    rw [evS, if_neg (by decide), if_neg (by decide), if_neg (by decide), if_pos rfl, hD, hDU, ← evSs_eqv l2 (Eqv.two (0, n, 0) ρ) m]
    show (DU ++ (evE ρ _ ++ [])) ++ (evSs l2 _ m ++ []) = _
    rw [List.append_nil, List.append_nil])
  have HEN : Hid (envS ρ (.mk 5 n [.mk k1 n1 l1 p1, .mk k2 n2 l2 p2] p) = ρ) := Lib.hid (by simp [envS])
  have HLN : Hid (DU.length ≤ 1 ∧ (evE ρ (.mk k1 n1 l1 p1)).length ≤ 2 * wtN (.mk k1 n1 l1 p1) ∧ wtN (.mk 5 n [.mk k1 n1 l1 p1, .mk k2 n2 l2 p2] p) = wtN (.mk k1 n1 l1 p1) + (wtL l2 + n2.length + 1) + n.length + 1) := Lib.hid ⟨by rw [← hDU]; cases D <;> simp, evE_len _ _, by
    rw [wtN_mk]
    show wtN _ + (wtN _ + 0) + _ + _ = _
    rw [wtN_mk k2]⟩
  have ct := rtruth_any n W
  rw [hD] at ct
  clear hD hDU
  obtain ⟨x0, x1, x2, x3, xf⟩ := HB.out.facts
  go_upto_region 11 with (fail)
  go_wp2_with fail
  refine ct.mono ?_
  clear ct
  rintro e w1 ⟨rfl, rfl⟩
  go_upto_if 42 with (fail)
  go_cut [] from 43 to 45 (fun wx => RGo Γ w ρ m F fr ca DU wx ∧ Box4 wx a (.int .i64 5) (.string ⟨n.toArray⟩) (.slice y (2 : Nat) c) (.int .i64 p) ∧ Γ.B ≤ wx.heap.size)
  case first =>
    cases D
    · go_wp2_with fail
      go_meet
      exact ⟨by rw [← HDU.out]; exact H0.out, HB.out, HSB.out⟩
    · have cW := H0.out.wrong1 5 n y 2 c p 280
      go_wp2_with fail
      refine cW.mono ?_
      clear cW x0 x1 x2 x3 xf
      rintro e w6 ⟨rfl, ho6, hg6⟩
      have H6 := Lib.hid (⟨hg6, HB.out.owr ho6 hne, Nat.le_trans HSB.out ho6.size⟩ : _ ∧ _ ∧ _)
      clear ho6 hg6
      go_wp2_with fail
      go_meet
      exact ⟨by rw [← HDU.out]; exact H6.out.1, H6.out.2⟩
  case rest =>
  clear x0 x1 x2 x3 xf H0 HB HSB
  obtain ⟨hg, hbx, hsz⟩ := hcut
  have HG := Lib.hid (⟨hbx, hsz⟩ : _ ∧ _)
  obtain ⟨x0, x1, x2, x3, xf⟩ := hbx.facts
  obtain ⟨B, o, rfl, hat, B', o', hq, hat2, -⟩ := HROW.out.owr hg.own HLO.out.1
  cases hq
  obtain ⟨y1, c1, z0, z1, z2, z3, -, hv1⟩ := hat.facts
  have cx := hg.expr1 HX.out hv1 hsz (by have := HBD.out.1; omega) (by have := HBD.out.2.2.1; have := HLN.out; omega) (by have := HBD.out.2.2.2.1; have := HLN.out; omega)
  have HAT2 : Hid (∀ w5, OwR Γ wc w5 → NdAt w5 (fun b => b < Γ.B) (.mk k2 n2 l2 p2) B (o + 4)) := Lib.hid fun w5 ho => by
    have h1 : NdRow wc (fun b => b < Γ.B) [.mk k2 n2 l2 p2] (some ⟨B, o + 4, none⟩) := ⟨_, _, rfl, hat2, trivial⟩
    obtain ⟨B', o', hq, hat, -⟩ := h1.owr ho HLO.out.1
    cases hq
    exact hat
  clear hg hbx hsz hat hat2 hv1 HROW
  go_wp2_with fail
  refine cx.mono ?_
  clear cx x0 x1 x2 x3 xf z0 z1 z2 z3
  rintro e w2 ⟨rfl, ho2, hg2⟩
  have ce := hg2.enter1 (by have := HBD.out.2.1; omega)
  have HO2 := Lib.hid ho2
  clear ho2 hg2
  go_wp2_with fail
  refine ce.mono ?_
  clear ce
  rintro e w3 ⟨rfl, ho3, hg3⟩
  have HO3 := Lib.hid (HO2.out.trans ho3)
  obtain ⟨x0, x1, x2, x3, xf⟩ := (HG.out.1.owr HO3.out hne).facts
  have cd := hg3.define1 (by have := HBD.out.1; show (defsE ρ).length < _; omega) (Nat.le_trans HG.out.2 HO3.out.size) 0 n 0
  clear ho3 hg3 HO2
  go_wp2_with fail
  refine cd.mono ?_
  clear cd x0 x1 x2 x3 xf
  rintro e w4 ⟨rfl, ho4, hg4⟩
  have HO4 := Lib.hid (HO3.out.trans ho4)
  have H4 := Lib.hid hg4
  have c0 := hg4.on1
  obtain ⟨O, hO⟩ : ∃ O, onR Γ (F.or (wrongE (DU ++ evE ρ (.mk k1 n1 l1 p1)))) = O := ⟨_, rfl⟩
  rw [hO] at c0
  have HO := Lib.hid hO
  have HLV : Hid (∀ (w5 : World) (ev : List Ev), RGo Γ w (some (0, n, 0) :: none :: ρ) m F fr ca ev w5 → Calls Tryz.prog 186 #[.pointer (some ⟨Γ.wb, 0, none⟩), .int .i64 (defsE ρ).length] w5 fun e w' => e = .returned (.tuple #[]) ∧ OwR Γ w5 w' ∧ RGo Γ w ρ m F fr ca ev w') := Lib.hid fun w5 ev h => h.leave1 (t := [(0, n, 0, depthE ρ + 1)]) (by have := HBD.out.2.1; omega) rfl rfl
  obtain ⟨dl, hdl⟩ : ∃ d, (defsE ρ).length = d := ⟨_, rfl⟩
  rw [hdl] at HLV ⊢
  clear ho4 hg4 HO3 hO
  cases O
  · have cl := HLV.out w4 _ (RGo.skip H4.out HO.out (evSs l2 (none :: some (0, n, 0) :: none :: ρ) m))
    clear hdl
    go_wp2_with fail
    refine c0.mono ?_
    clear c0
    rintro e w5 ⟨rfl, rfl⟩
    go_wp2_with fail
    refine cl.mono ?_
    clear cl
    rintro e w6 ⟨rfl, -, hg6⟩
    have HEND : Hid (RGo Γ w (envS ρ (.mk 5 n [.mk k1 n1 l1 p1, .mk k2 n2 l2 p2] p)) m F fr ca (evS (.mk 5 n [.mk k1 n1 l1 p1, .mk k2 n2 l2 p2] p) ρ m) w6) := Lib.hid (by
      rw [HEV.out, HEN.out]
      exact hg6)
    clear hg6
    go_wp2_with fail
    go_end0
    exact ⟨rfl, HEND.out⟩
  · obtain ⟨y2, c2, z0, z1, z2, z3, -, hv2⟩ := (HAT2.out _ HO4.out).facts
    obtain ⟨x0, x1, x2, x3, xf⟩ := (HG.out.1.owr HO4.out hne).facts
    have cb := H4.out.block1 HY.out hv2 (Nat.le_trans HG.out.2 HO4.out.size) (by
      have h1 := HBD.out
      have h2 := HLN.out
      refine ⟨?_, ?_, ?_, ?_, ?_⟩
      · show (defsE ρ ++ [_]).length + _ < _
        rw [List.length_append, List.length_singleton]
        have := h1.1
        show _ + 2 * (wtL l2 + 1) < _
        omega
      · show depthE ρ + 1 + 2 * (wtL l2 + 1) < _
        have := h1.2.1
        omega
      · rw [List.length_append]
        show _ + 2 * (wtL l2 + 1) < _
        have := h1.2.2.1
        omega
      · rw [List.length_append]
        show _ + 2 * (wtL l2 + 1) < _
        have := h1.2.2.2.1
        omega
      · show _ + 2 * (wtL l2 + 1) < _
        have := h1.2.2.2.2
        omega)
    clear hdl hv2
    go_wp2_with fail
    refine c0.mono ?_
    clear c0
    rintro e w5 ⟨rfl, rfl⟩
    go_wp2_with fail
    refine cb.mono ?_
    clear cb x0 x1 x2 x3 xf z0 z1 z2 z3
    rintro e w5 ⟨rfl, -, hg5⟩
    have cl := HLV.out w5 _ hg5
    clear hg5
    go_wp2_with fail
    refine cl.mono ?_
    clear cl
    rintro e w6 ⟨rfl, -, hg6⟩
    have HEND : Hid (RGo Γ w (envS ρ (.mk 5 n [.mk k1 n1 l1 p1, .mk k2 n2 l2 p2] p)) m F fr ca (evS (.mk 5 n [.mk k1 n1 l1 p1, .mk k2 n2 l2 p2] p) ρ m) w6) := Lib.hid (by
      rw [HEV.out, HEN.out]
      exact hg6)
    clear hg6
    go_wp2_with fail
    go_end0
    exact ⟨rfl, HEND.out⟩
set_option maxHeartbeats 4000000 in
set_option maxRecDepth 100000 in
theorem rstmt6 (Γ : RCtx) (n : List UInt8) (x : Nd) (r : List Nd) (p : Int) (hX : ExprR Γ x) (hY : ∀ b ∈ r, BlockR Γ b.kids) : StmtR Γ (.mk 6 n (x :: r) p) := by
  intro w ρ m F fr ca v hv h hB hall hbd
  obtain ⟨y, cv, rfl, hrow⟩ := hv
  generalize cv.val = c
  clear cv
  obtain ⟨K, hK⟩ : ∃ K, (x :: r).length = K := ⟨_, rfl⟩
  rw [hK]
  have hA : Below w.heap.size w (w.alloc (.cells #[.int .i64 6, .string ⟨n.toArray⟩, .slice y K c, .int .i64 p] 53)) := (Below.refl _ _).alloc (Nat.le_refl _) _
  have HLO : Hid (Γ.B ≤ Γ.wb ∧ Γ.wb < w.heap.size) := by
    obtain ⟨dv, fp, fv, cv, h⟩ := h
    exact ⟨h.low, h.lt⟩
  have H0 := Lib.hid (RGo.start (OwR.of_below hA) (h.below hA))
  have HB := Lib.hid (Box4.new w (.int .i64 6) (.string ⟨n.toArray⟩) (.slice y K c) (.int .i64 p))
  have HROW := Lib.hid hrow
  have HALL := Lib.hid hall
  have HBD := Lib.hid hbd
  have HSB : Hid (Γ.B ≤ (w.alloc (.cells #[.int .i64 6, .string ⟨n.toArray⟩, .slice y K c, .int .i64 p] 53)).heap.size) := Lib.hid (by simp; omega)
  have hne : w.heap.size ≠ Γ.wb := by have := HLO.out; omega
  clear hA hrow hall hbd h hB
  go_enter Tryz.func185, Tryz.ntmps185
  go_upto_region 1 with (fail)
  obtain ⟨a, ha⟩ : ∃ a, w.heap.size = a := ⟨_, rfl⟩
  rw [ha] at HB hne ⊢
  clear ha
  generalize World.alloc w (.cells #[.int .i64 6, .string ⟨n.toArray⟩, .slice y K c, .int .i64 p] 53) = W at H0 HB HSB ⊢
  have HX := Lib.hid hX
  have HY := Lib.hid hY
  clear hX hY
  obtain ⟨k1, n1, l1, p1⟩ := x
  obtain ⟨E1, hE1⟩ : ∃ E, evE ρ (.mk k1 n1 l1 p1) = E := ⟨_, rfl⟩
  have HEV : Hid (evS (.mk 6 n (.mk k1 n1 l1 p1 :: r) p) ρ m = E1 ++ evBs r ρ m) := Lib.hid (by
    rw [evS, if_neg (by decide), if_neg (by decide), if_neg (by decide), if_neg (by decide), if_pos rfl, ← hE1]
    show (evE ρ _ ++ []) ++ evBs r ρ m = _
    rw [List.append_nil])
  have HEN : Hid (envS ρ (.mk 6 n (.mk k1 n1 l1 p1 :: r) p) = ρ) := Lib.hid (by simp [envS])
  have HKK : Hid (K = r.length + 1) := Lib.hid hK.symm
  have HLN : Hid (E1.length ≤ 2 * wtN (.mk k1 n1 l1 p1) ∧ wtN (.mk 6 n (.mk k1 n1 l1 p1 :: r) p) = wtN (.mk k1 n1 l1 p1) + wtL r + n.length + 1 ∧ K < 2 ^ 40 ∧ 0 < K) := Lib.hid (by
    have h1 : wtN (.mk 6 n (.mk k1 n1 l1 p1 :: r) p) = wtN (.mk k1 n1 l1 p1) + wtL r + n.length + 1 := by rw [wtN_mk]; rfl
    refine ⟨by rw [← hE1]; exact evE_len _ _, h1, ?_, by have := HKK.out; omega⟩
    have h4 := HKK.out
    have h2 := HBD.out.1
    have h3 := len_wtL r
    omega)
  have hKs : K < 2 ^ 40 := HLN.out.2.2.1
  have hK0 : 0 < K := HLN.out.2.2.2
  obtain ⟨x0, x1, x2, x3, xf⟩ := HB.out.facts
  obtain ⟨B, o, rfl, hat, -⟩ := HROW.out.owr H0.out.own HLO.out.1
  obtain ⟨y1, c1, z0, z1, z2, z3, -, hv1⟩ := hat.facts
  have cx := H0.out.expr1 HX.out hv1 HSB.out (by have := HBD.out.1; omega) (by have := HBD.out.2.2.1; have := HLN.out; rw [hE1]; simp only [List.length_nil]; omega) (by have := HBD.out.2.2.2.1; have := HLN.out; rw [hE1]; simp only [List.length_nil]; omega)
  rw [hE1, List.nil_append] at cx
  have HROW1 : Hid (∀ w5, OwR Γ w w5 → NdRow w5 (fun b => b < Γ.B) (.mk k1 n1 l1 p1 :: r) (some ⟨B, o, none⟩)) := Lib.hid fun w5 ho => HROW.out.owr ho HLO.out.1
  clear hat hv1 HROW hK hE1
  go_upto_region 20 with (fail)
  go_wp2_with fail
  refine cx.mono ?_
  clear cx x0 x1 x2 x3 xf z0 z1 z2 z3
  rintro e w2 ⟨rfl, ho2, hg2⟩
  have H2 := Lib.hid (⟨hg2, HB.out.owr ho2 hne, Nat.le_trans HSB.out ho2.size⟩ : _ ∧ _ ∧ _)
  obtain ⟨x0, x1, x2, x3, xf⟩ := H2.out.2.1.facts
  clear ho2 hg2
  go_upto_region 22 with (fail)
  go_loopg [5] K (fun g v wx => ∃ i j : Nat, v = .int .i64 i ∧ i = j + 1 ∧ i + g = K + 1 ∧ RGo Γ w ρ m F fr ca (E1 ++ evBs (r.take j) ρ m) wx ∧ Box4 wx a (.int .i64 6) (.string ⟨n.toArray⟩) (.slice (some ⟨B, o, none⟩) K c) (.int .i64 p) ∧ Γ.B ≤ wx.heap.size)
  case atStart => exact ⟨1, 0, rfl, rfl, by omega, by rw [List.take_zero]; show RGo Γ w ρ m F fr ca (E1 ++ []) _; rw [List.append_nil]; exact H2.out.1, H2.out.2⟩
  case round =>
    clear H2 x0 x1 x2 x3 xf
    obtain ⟨i, j, rfl, hij, hi, hg, hbx, hsz⟩ := hrel
    have HG := Lib.hid (⟨hg, hbx, hsz⟩ : _ ∧ _ ∧ _)
    obtain ⟨x0, x1, x2, x3, xf⟩ := hbx.facts
    by_cases hlt : i < K
    · obtain ⟨b, hb⟩ : ∃ b, r[j]? = some b := ⟨r[j]'(by have := HKK.out; omega), List.getElem?_eq_getElem _⟩
      have hmem := List.mem_of_getElem? hb
      have hb' : (Nd.mk k1 n1 l1 p1 :: r)[i]? = some b := by rw [hij]; exact hb
      obtain ⟨B', o', hq, hat⟩ := (HROW1.out _ hg.own).at_ hb'
      cases hq
      obtain ⟨k2, n2, l2, p2⟩ := b
      have htk : r.take (j + 1) = r.take j ++ [.mk k2 n2 l2 p2] := by rw [List.take_add_one, hb]; rfl
      have hevs : evBs (r.take (j + 1)) ρ m = evBs (r.take j) ρ m ++ evSs l2 (none :: ρ) m := by
        rw [htk, evBs_app]
        show _ ++ (evSs l2 (none :: ρ) m ++ []) = _
        rw [List.append_nil]
      have hcat : E1 ++ evBs r ρ m = (E1 ++ evBs (r.take j) ρ m) ++ evBs (r.drop j) ρ m := by
        rw [List.append_assoc, ← evBs_app, List.take_append_drop]
      have HSN := Lib.hid (⟨hevs, hcat⟩ : _ ∧ _)
      have hbd : RBe ρ m fr ca (E1 ++ evBs (r.take j) ρ m).length (wtL l2 + 1) := by
        have h1 := wtL_app (r.take (j + 1)) (r.drop (j + 1))
        rw [List.take_append_drop, htk, wtL_app] at h1
        have h2 : wtL [.mk k2 n2 l2 p2] = wtL l2 + n2.length + 1 := wtN_mk k2 n2 l2 p2
        have h3 := evBs_len (r.take j) ρ m
        obtain ⟨b1, b2, b3, b4, b5⟩ := HBD.out
        obtain ⟨g1, g2, -⟩ := HLN.out
        have h4 : (E1 ++ evBs (r.take j) ρ m).length = E1.length + (evBs (r.take j) ρ m).length := List.length_append
        refine ⟨?_, ?_, ?_, ?_, ?_⟩ <;> omega
      obtain ⟨y2, c2, z0, z1, z2, z3, -, hv2⟩ := hat.facts
      have cb := hg.block1 (HY.out _ hmem) hv2 hsz hbd
      have hlt' : (i : Int) < (K : Int) := by omega
      have Qi1 : IntKind.i64.wrap ((i : Int) + 1) = (i : Int) + 1 := IntWalk.i64_in _ (by omega)
      have c0 := hg.on1
      have HIJ := Lib.hid hij
      obtain ⟨O, hO⟩ : ∃ O, onR Γ (F.or (wrongE (E1 ++ evBs (r.take j) ρ m))) = O := ⟨_, rfl⟩
      rw [hO] at c0
      have HO := Lib.hid hO
      clear hg hbx hsz hmem hb hb' hat htk hevs hcat hbd hv2 hO hij
      cases O
      · have HEND : Hid (RGo Γ w (envS ρ (.mk 6 n (.mk k1 n1 l1 p1 :: r) p)) m F fr ca (evS (.mk 6 n (.mk k1 n1 l1 p1 :: r) p) ρ m) wr) := Lib.hid (by
          rw [HEV.out, HEN.out, HSN.out.2]
          exact RGo.skip HG.out.1 HO.out _)
        clear cb z0 z1 z2 z3
        go_wp2_with fail
        refine c0.mono ?_
        clear c0
        rintro e w1 ⟨rfl, rfl⟩
        go_wp2_with fail
        go_end0
        exact ⟨rfl, HEND.out⟩
      · go_wp2_with fail
        refine c0.mono ?_
        clear c0
        rintro e w1 ⟨rfl, rfl⟩
        go_wp2_with fail
        refine cb.mono ?_
        clear cb z0 z1 z2 z3 x0 x1 x2 x3 xf
        rintro e w2 ⟨rfl, ho2, hg2⟩
        have HRES : Hid (RGo Γ w ρ m F fr ca (E1 ++ evBs (r.take (j + 1)) ρ m) w2) := by
          show RGo _ _ _ _ _ _ _ _ _
          rw [HSN.out.1, ← List.append_assoc]
          exact hg2
        have HB2 := Lib.hid (⟨HG.out.2.1.owr ho2 hne, Nat.le_trans HG.out.2.2 ho2.size⟩ : _ ∧ _)
        clear ho2 hg2
        go_wp2_with fail
        go_roundg (gk - 1)
        case measure => omega
        case rel => exact ⟨i + 1, j + 1, rfl, by have := HIJ.out; omega, by omega, HRES.out, HB2.out⟩
    · have hlt' : ¬ (i : Int) < (K : Int) := by omega
      have HEND : Hid (RGo Γ w (envS ρ (.mk 6 n (.mk k1 n1 l1 p1 :: r) p)) m F fr ca (evS (.mk 6 n (.mk k1 n1 l1 p1 :: r) p) ρ m) wr) := Lib.hid (by
        rw [HEV.out, HEN.out]
        have h1 := HG.out.1
        rwa [List.take_of_length_le (by have := HKK.out; omega)] at h1)
      clear hg hbx hsz
      go_wp2_with fail
      go_end0
      exact ⟨rfl, HEND.out⟩
end Go.Proofs.YtpbkeamjdolpgaaGreatDoor
namespace Go.Proofs.YtpbkeamjdolpgaaGreatDoor
open Go.RowKit Go.Lib

def BodyR (Γ : RCtx) (x : Nd) : Prop := ∀ (w : World) (ρ : Env) (m : Nat) (F : FltR) (fr ca : List (List UInt8)) (v : Value), NdVal w (fun b => b < Γ.B) x v → RW Γ w (defsE ρ) (depthE ρ) m F fr ca → Γ.B ≤ w.heap.size → ρ.all (·.isSome) = false → RBd ρ m fr ca (wtN x) →
  Calls Tryz.prog 226 #[.pointer (some ⟨Γ.wb, 0, none⟩), v] w fun e w' => e = .returned (.tuple #[]) ∧ RGo Γ w (envS ρ x) m F fr ca (evS x ρ m) w'
set_option maxHeartbeats 4000000 in
set_option maxRecDepth 100000 in
theorem rbody2 (Γ : RCtx) (n : List UInt8) (k0 : Int) (n0 : List UInt8) (l0 : List Nd) (p0 k1 : Int) (n1 : List UInt8) (l1 : List Nd) (p1 p : Int) (hY : BlockR Γ l1) : BodyR Γ (.mk 2 n [.mk k0 n0 l0 p0, .mk k1 n1 l1 p1] p) := by
  intro w ρ m F fr ca v hv h hB hall hbd
  obtain ⟨y, cv, rfl, hrow⟩ := hv
  generalize cv.val = c
  clear cv
  rw [show [Nd.mk k0 n0 l0 p0, .mk k1 n1 l1 p1].length = 2 from rfl]
  have hA : Below w.heap.size w (w.alloc (.cells #[.int .i64 2, .string ⟨n.toArray⟩, .slice y (2 : Nat) c, .int .i64 p] 53)) := (Below.refl _ _).alloc (Nat.le_refl _) _
  have HLO : Hid (Γ.B ≤ Γ.wb ∧ Γ.wb < w.heap.size) := by
    obtain ⟨dv, fp, fv, cv, h⟩ := h
    exact ⟨h.low, h.lt⟩
  have H0 := Lib.hid (RGo.start (OwR.of_below hA) (h.below hA))
  have HB := Lib.hid (Box4.new w (.int .i64 2) (.string ⟨n.toArray⟩) (.slice y (2 : Nat) c) (.int .i64 p))
  have HROW := Lib.hid hrow
  have HALL := Lib.hid hall
  have HBD := Lib.hid hbd
  have HY := Lib.hid hY
  have HSB : Hid (Γ.B ≤ (w.alloc (.cells #[.int .i64 2, .string ⟨n.toArray⟩, .slice y (2 : Nat) c, .int .i64 p] 53)).heap.size) := Lib.hid (by simp; omega)
  have hne : w.heap.size ≠ Γ.wb := by have := HLO.out; omega
  obtain ⟨DU, hDU⟩ : ∃ DU, defE ρ 2 n p = DU := ⟨_, rfl⟩
  obtain ⟨L, hL⟩ : ∃ L, l0.length = L := ⟨_, rfl⟩
  obtain ⟨σ, hσ⟩ : ∃ σ : Env, none :: some (2, n, L) :: ρ = σ := ⟨_, rfl⟩
  have HEV : Hid (evS (.mk 2 n [.mk k0 n0 l0 p0, .mk k1 n1 l1 p1] p) ρ m = (DU ++ parE σ l0) ++ evSs l1 (none :: parV σ l0) (m + 1)) := Lib.hid (by
    rw [evS, if_neg (by decide), if_pos rfl, ← hDU, ← hσ, ← hL]
    show (defE ρ 2 n p ++ parE (none :: some (2, n, l0.length) :: ρ) l0) ++ (evSs l1 (none :: parV (none :: some (2, n, l0.length) :: ρ) l0) (m + 1) ++ []) = _
    rw [List.append_nil])
  have HEN : Hid (envS ρ (.mk 2 n [.mk k0 n0 l0 p0, .mk k1 n1 l1 p1] p) = some (2, n, L) :: ρ) := Lib.hid (by rw [← hL]; simp [envS, argc])
  have HSG : Hid (defsE σ = defsE (some (2, n, L) :: ρ) ∧ (defsE σ).length = (defsE ρ).length + 1 ∧ depthE σ = depthE ρ + 1 ∧ σ.all (·.isSome) = false) := Lib.hid (by
    rw [← hσ]
    exact ⟨rfl, by simp [defsE], rfl, rfl⟩)
  have HLN : Hid (DU.length ≤ 1 ∧ (parE σ l0).length ≤ L ∧ L ≤ wtL l0 ∧ wtN (.mk 2 n [.mk k0 n0 l0 p0, .mk k1 n1 l1 p1] p) = (wtL l0 + n0.length + 1) + (wtL l1 + n1.length + 1) + n.length + 1) := Lib.hid ⟨by rw [← hDU]; exact defE_len _ _ _ _, by rw [← hL]; exact parE_len _ _, by rw [← hL]; exact len_wtL _, by
    rw [wtN_mk]
    show wtN _ + (wtN _ + 0) + _ + _ = _
    rw [wtN_mk k0, wtN_mk k1]⟩
  obtain ⟨G, hG⟩ : ∃ G, (mdB n).map (·.1) = G := ⟨_, rfl⟩
  obtain ⟨D, hD⟩ : ∃ D, (G.isSome || (findE ρ 2 n true).isSome) = D := ⟨_, rfl⟩
  have HDU : Hid (DU = if D then [.bad 280 n p] else []) := Lib.hid (by rw [← hDU, ← hD, ← hG, Option.isSome_map]; rfl)
  have HDD := Lib.hid hD
  have HLL := Lib.hid hL
  have HSS := Lib.hid hσ
  have cb := fun W => rbuiltin2 n W
  rw [hG] at cb
  clear hA hrow hall hbd h hB hY hDU hσ hG hD hL
  go_enter Tryz.func226, Tryz.ntmps226
  go_upto_region 1 with (fail)
  obtain ⟨a, ha⟩ : ∃ a, w.heap.size = a := ⟨_, rfl⟩
  rw [ha] at HB hne ⊢
  clear ha
  generalize World.alloc w (.cells #[.int .i64 2, .string ⟨n.toArray⟩, .slice y (2 : Nat) c, .int .i64 p] 53) = W at H0 HB HSB ⊢
  obtain ⟨x0, x1, x2, x3, xf⟩ := HB.out.facts
  have cb := cb W
  go_wp2_with fail
  refine cb.mono ?_
  clear cb
  rintro e w1 ⟨rfl, rfl⟩
  go_upto_region 5 with (fail)
  go_cut [26] from 18 to 26 (fun v wx => v = .bool D ∧ RGo Γ w ρ m F fr ca [] wx ∧ Box4 wx a (.int .i64 2) (.string ⟨n.toArray⟩) (.slice y (2 : Nat) c) (.int .i64 p) ∧ Γ.B ≤ wx.heap.size)
  case first =>
    have co := H0.out.own1 (by have := HBD.out.1; omega) HALL.out 2 n
    have HK : Hid (∀ w5, OwR Γ W w5 → Box4 w5 a (.int .i64 2) (.string ⟨n.toArray⟩) (.slice y (2 : Nat) c) (.int .i64 p) ∧ Γ.B ≤ w5.heap.size) := Lib.hid fun w5 ho => ⟨HB.out.owr ho hne, Nat.le_trans HSB.out ho.size⟩
    obtain ⟨O, hO⟩ : ∃ O, (findE ρ 2 n true).isSome = O := ⟨_, rfl⟩
    rw [hO] at co
    have HO := Lib.hid hO
    clear hO
    cases G with
    | none =>
      rw [show argI none = -1 from rfl]
      have Qm : ¬ (-1 : Int) ≥ 0 := by decide
      go_wp2_with fail
      refine co.mono ?_
      clear co x0 x1 x2 x3 xf
      rintro e w5 ⟨rfl, ho5, hg5⟩
      have H5 := Lib.hid (⟨ho5, hg5⟩ : _ ∧ _)
      clear ho5 hg5
      go_wp2_with fail
      go_meet
      exact ⟨by rw [← HDD.out, HO.out]; rfl, H5.out.2, HK.out _ H5.out.1⟩
    | some fa =>
      rw [show argI (some fa) = (fa : Int) from rfl]
      have Qa : ((fa : Nat) : Int) ≥ 0 := by omega
      clear co
      go_wp2_with fail
      go_meet
      exact ⟨by rw [← HDD.out]; rfl, H0.out, HB.out, HSB.out⟩
  case rest =>
  clear x0 x1 x2 x3 xf H0 HB HSB
  obtain ⟨rfl, hg, hbx, hsz⟩ := hcut
  have H0 := Lib.hid hg
  have HB := Lib.hid hbx
  have HSB := Lib.hid hsz
  clear hg hbx hsz
  go_upto_if 26 with (fail)
  go_cut [] from 27 to 29 (fun wx => RGo Γ w ρ m F fr ca DU wx ∧ Box4 wx a (.int .i64 2) (.string ⟨n.toArray⟩) (.slice y (2 : Nat) c) (.int .i64 p) ∧ Γ.B ≤ wx.heap.size)
  case first =>
    obtain ⟨x0, x1, x2, x3, xf⟩ := HB.out.facts
    cases D
    · go_wp2_with fail
      go_meet
      exact ⟨by rw [HDU.out]; exact H0.out, HB.out, HSB.out⟩
    · have cW := H0.out.wrong1 2 n y 2 c p 280
      go_wp2_with fail
      refine cW.mono ?_
      clear cW x0 x1 x2 x3 xf
      rintro e w6 ⟨rfl, ho6, hg6⟩
      have H6 := Lib.hid (⟨hg6, HB.out.owr ho6 hne, Nat.le_trans HSB.out ho6.size⟩ : _ ∧ _ ∧ _)
      clear ho6 hg6
      go_wp2_with fail
      go_meet
      exact ⟨by rw [HDU.out]; exact H6.out.1, H6.out.2⟩
  case rest =>
  clear H0 HB HSB
  obtain ⟨hg, hbx, hsz⟩ := hcut
  have HG := Lib.hid (⟨hbx, hsz⟩ : _ ∧ _)
  obtain ⟨B, o, rfl, hat, B', o', hq, hat2, -⟩ := HROW.out.owr hg.own HLO.out.1
  cases hq
  have HAT : Hid (∀ w5, OwR Γ wc w5 → NdAt w5 (fun b => b < Γ.B) (.mk k0 n0 l0 p0) B o ∧ NdAt w5 (fun b => b < Γ.B) (.mk k1 n1 l1 p1) B (o + 4)) := Lib.hid fun w5 ho => by
    have h1 : NdRow wc (fun b => b < Γ.B) [.mk k0 n0 l0 p0, .mk k1 n1 l1 p1] (some ⟨B, o, none⟩) := ⟨_, _, rfl, hat, _, _, rfl, hat2, trivial⟩
    obtain ⟨B', o', hq, hat, B2, o2, hq2, hat2, -⟩ := h1.owr ho HLO.out.1
    cases hq
    cases hq2
    exact ⟨hat, hat2⟩
  clear hbx hsz hat hat2 HROW
  -- it is defined
  go_upto_region 7 with (fail)
  obtain ⟨x0, x1, x2, x3, xf⟩ := HG.out.1.facts
  obtain ⟨y1, c1, z0, z1, z2, z3, -, -⟩ := (HAT.out _ (OwR.refl _ _)).1.facts
  rw [HLL.out] at z2
  go_still_tail 10, (by kernel_rfl)
  clear x0 x1 x2 x3 xf z0 z1 z2 z3
  change wpList _ _ _ _ _ (World.drew wc)
  have HOa : Hid (OwR Γ wc wc.drew) := Lib.hid (OwR.of_below (Below.refl _ _).drew)
  have HGa := Lib.hid (hg.below (Below.refl _ _).drew)
  clear hg
  generalize World.drew wc = wa at *
  obtain ⟨x0, x1, x2, x3, xf⟩ := (HG.out.1.owr HOa.out hne).facts
  obtain ⟨y1, c1, z0, z1, z2, z3, -, -⟩ := (HAT.out _ HOa.out).1.facts
  rw [HLL.out] at z2
  have cd := HGa.out.define1 (by have := HBD.out.1; omega) (Nat.le_trans HG.out.2 HOa.out.size) 2 n L
  go_wp2_with fail
  refine cd.mono ?_
  clear cd x0 x1 x2 x3 xf z0 z1 z2 z3
  rintro e w2 ⟨rfl, ho2, hg2⟩
  have HO2 := Lib.hid (HOa.out.trans ho2)
  have ce := hg2.enter1 (by have := HBD.out.2.1; show depthE ρ < _; omega)
  clear ho2 hg2 HOa HGa
  go_wp2_with fail
  refine ce.mono ?_
  clear ce
  rintro e w3 ⟨rfl, ho3, hg3⟩
  rw [HSS.out] at hg3
  have HO3 := Lib.hid (HO2.out.trans ho3)
  obtain ⟨x0, x1, x2, x3, xf⟩ := (HG.out.1.owr HO3.out hne).facts
  obtain ⟨y1, c1, z0, z1, z2, z3, hr1, -⟩ := (HAT.out _ HO3.out).1.facts
  have cp := hg3.params1 (c := c1) hr1 (Nat.le_trans HG.out.2 HO3.out.size) HSG.out.2.2.2 (by have := HBD.out.1; have := HLN.out; have := HLL.out; have := HSG.out; omega)
  rw [HLL.out] at cp z2
  have HLV : Hid (∀ (w5 : World) (ev : List Ev) (j : Nat), RGo Γ w (parV σ (l0.take j)) m F fr ca ev w5 → Calls Tryz.prog 186 #[.pointer (some ⟨Γ.wb, 0, none⟩), .int .i64 (defsE (some (2, n, L) :: ρ)).length] w5 fun e w' => e = .returned (.tuple #[]) ∧ OwR Γ w5 w' ∧ RGo Γ w (some (2, n, L) :: ρ) m F fr ca ev w') := Lib.hid fun w5 ev j h => by
    obtain ⟨t, ht⟩ := parV_defs (l0.take j) σ
    rw [HSG.out.1] at ht
    exact h.leave1 (by have := HBD.out.2.1; show depthE ρ < _; omega) (by rw [parV_depth, HSG.out.2.2.1]; rfl) ht
  obtain ⟨dl, hdl⟩ : ∃ d, (defsE (some (2, n, L) :: ρ)).length = d := ⟨_, rfl⟩
  rw [hdl] at HLV ⊢
  clear ho3 hg3 HO2 hdl hr1
  go_wp2_with fail
  refine cp.mono ?_
  clear cp x0 x1 x2 x3 xf z0 z1 z2 z3
  rintro e w4 ⟨rfl, ho4, j, hj, hg4, hor⟩
  have HO4 := Lib.hid (HO3.out.trans ho4)
  have H4 := Lib.hid (⟨hg4, hj, hor⟩ : _ ∧ _ ∧ _)
  have c0 := hg4.on1
  obtain ⟨O, hO⟩ : ∃ O, onR Γ (F.or (wrongE (DU ++ parE σ l0))) = O := ⟨_, rfl⟩
  rw [hO] at c0
  have HO := Lib.hid hO
  clear ho4 hg4 hj hor HO3 hO
  cases O
  · have cl := HLV.out w4 _ j (RGo.skip H4.out.1 HO.out (evSs l1 (none :: parV σ l0) (m + 1)))
    go_wp2_with fail
    refine c0.mono ?_
    clear c0
    rintro e w5 ⟨rfl, rfl⟩
    go_wp2_with fail
    refine cl.mono ?_
    clear cl
    rintro e w6 ⟨rfl, -, hg6⟩
    have HEND : Hid (RGo Γ w (envS ρ (.mk 2 n [.mk k0 n0 l0 p0, .mk k1 n1 l1 p1] p)) m F fr ca (evS (.mk 2 n [.mk k0 n0 l0 p0, .mk k1 n1 l1 p1] p) ρ m) w6) := Lib.hid (by
      rw [HEV.out, HEN.out]
      exact hg6)
    clear hg6
    go_wp2_with fail
    go_end0
    exact ⟨rfl, HEND.out⟩
  · have H5 : Hid (RGo Γ w (parV σ l0) m F fr ca (DU ++ parE σ l0) w4) := Lib.hid (by
      have h1 := H4.out.2.2
      rw [HO.out] at h1
      have h2 := H4.out.1
      rcases h1 with h1 | h1
      · rwa [List.take_of_length_le (by have := HLL.out; omega)] at h2
      · cases h1)
    have HPL : Hid ((defsE (parV σ l0)).length = (defsE ρ).length + 1 + L ∧ depthE (parV σ l0) = depthE ρ + 1) := Lib.hid ⟨by rw [parV_len, HSG.out.2.1, HLL.out], by rw [parV_depth, HSG.out.2.2.1]⟩
    have HES : Hid ((DU ++ parE σ l0).length ≤ 1 + L) := Lib.hid (by rw [List.length_append]; have := HLN.out; omega)
    obtain ⟨x0, x1, x2, x3, xf⟩ := (HG.out.1.owr HO4.out hne).facts
    obtain ⟨M, hM⟩ : ∃ M, m + 1 = M := ⟨_, rfl⟩
    have hms : m + 1 < 2 ^ 40 := by have := HBD.out.2.2.2.2; have := HLN.out; omega
    have Q1 : IntKind.i64.wrap ((m : Int) + 1) = (M : Int) := by
      rw [← hM]
      exact IntWalk.i64_in _ (by omega)
    have Q2 : IntKind.i64.wrap ((M : Int) - 1) = (m : Int) := by
      rw [← hM]
      have := IntWalk.i64_in (m : Int) (by omega)
      rw [show (((m + 1 : Nat) : Int) - 1) = (m : Int) by omega]
      exact this
    have HMM := Lib.hid hM
    obtain ⟨q2, qf⟩ := H5.out.in_
    have qf2 := qf 2
    have HO5 : Hid (OwR Γ wc (w4.setCell ⟨Γ.wb, 2, none⟩ (.int .i64 M))) := Lib.hid (HO4.out.setCell _ _)
    have H6 := Lib.hid (H5.out.setIn1 M)
    obtain ⟨y2, c2, z0, z1, z2, z3, -, hv1⟩ := (HAT.out _ HO5.out).2.facts
    have cb := H6.out.block1 HY.out hv1 (Nat.le_trans HG.out.2 HO5.out.size) (by
      have h1 := HPL.out
      have h2 := HLN.out
      have h3 := HES.out
      obtain ⟨b1, b2, b3, b4, b5⟩ := HBD.out
      refine ⟨?_, ?_, ?_, ?_, ?_⟩ <;> omega)
    clear hM hms hv1
    go_wp2_with fail
    refine c0.mono ?_
    clear c0
    rintro e w5 ⟨rfl, rfl⟩
    go_upto_region 11 with (fail)
    clear x0 x1 x2 x3 xf q2 qf qf2
    obtain ⟨x0, x1, x2, x3, xf⟩ := (HG.out.1.owr HO5.out hne).facts
    go_wp2_with fail
    refine cb.mono ?_
    clear cb x0 x1 x2 x3 xf z0 z1 z2 z3
    rintro e w6 ⟨rfl, -, hg6⟩
    obtain ⟨i2, jf⟩ := hg6.in_
    have jf2 := jf 2
    have H7 := Lib.hid (hg6.setIn1 m)
    have cl := HLV.out (w6.setCell ⟨Γ.wb, 2, none⟩ (.int .i64 m)) _ l0.length (by rw [List.take_of_length_le (Nat.le_refl _)]; exact H7.out)
    clear hg6
    go_wp2_with fail
    refine cl.mono ?_
    clear cl i2 jf jf2
    rintro e w7 ⟨rfl, -, hg7⟩
    have HEND : Hid (RGo Γ w (envS ρ (.mk 2 n [.mk k0 n0 l0 p0, .mk k1 n1 l1 p1] p)) m F fr ca (evS (.mk 2 n [.mk k0 n0 l0 p0, .mk k1 n1 l1 p1] p) ρ m) w7) := Lib.hid (by
      rw [HEV.out, HEN.out, HMM.out]
      exact hg7)
    clear hg7
    go_wp2_with fail
    go_end0
    exact ⟨rfl, HEND.out⟩
set_option maxHeartbeats 4000000 in
set_option maxRecDepth 100000 in
theorem rbody3 (Γ : RCtx) (n : List UInt8) (k0 : Int) (n0 : List UInt8) (l0 : List Nd) (p0 k1 : Int) (n1 : List UInt8) (l1 : List Nd) (p1 p : Int) (hY : ExprR Γ (.mk k1 n1 l1 p1)) : BodyR Γ (.mk 3 n [.mk k0 n0 l0 p0, .mk k1 n1 l1 p1] p) := by
  intro w ρ m F fr ca v hv h hB hall hbd
  obtain ⟨y, cv, rfl, hrow⟩ := hv
  generalize cv.val = c
  clear cv
  rw [show [Nd.mk k0 n0 l0 p0, .mk k1 n1 l1 p1].length = 2 from rfl]
  have hA : Below w.heap.size w (w.alloc (.cells #[.int .i64 3, .string ⟨n.toArray⟩, .slice y (2 : Nat) c, .int .i64 p] 53)) := (Below.refl _ _).alloc (Nat.le_refl _) _
  have HLO : Hid (Γ.B ≤ Γ.wb ∧ Γ.wb < w.heap.size) := by
    obtain ⟨dv, fp, fv, cv, h⟩ := h
    exact ⟨h.low, h.lt⟩
  have H0 := Lib.hid (RGo.start (OwR.of_below hA) (h.below hA))
  have HB := Lib.hid (Box4.new w (.int .i64 3) (.string ⟨n.toArray⟩) (.slice y (2 : Nat) c) (.int .i64 p))
  have HROW := Lib.hid hrow
  have HALL := Lib.hid hall
  have HBD := Lib.hid hbd
  have HY := Lib.hid hY
  have HSB : Hid (Γ.B ≤ (w.alloc (.cells #[.int .i64 3, .string ⟨n.toArray⟩, .slice y (2 : Nat) c, .int .i64 p] 53)).heap.size) := Lib.hid (by simp; omega)
  have hne : w.heap.size ≠ Γ.wb := by have := HLO.out; omega
  obtain ⟨DU, hDU⟩ : ∃ DU, defE ρ 1 n p = DU := ⟨_, rfl⟩
  obtain ⟨L, hL⟩ : ∃ L, l0.length = L := ⟨_, rfl⟩
  obtain ⟨σ, hσ⟩ : ∃ σ : Env, none :: some (1, n, L) :: ρ = σ := ⟨_, rfl⟩
  have HEV : Hid (evS (.mk 3 n [.mk k0 n0 l0 p0, .mk k1 n1 l1 p1] p) ρ m = (DU ++ parE σ l0) ++ evE (parV σ l0) (.mk k1 n1 l1 p1)) := Lib.hid (by
    rw [evS, if_neg (by decide), if_neg (by decide), if_pos rfl, ← hDU, ← hσ, ← hL]
    show (defE ρ 1 n p ++ parE (none :: some (1, n, l0.length) :: ρ) l0) ++ (evE (parV (none :: some (1, n, l0.length) :: ρ) l0) (.mk k1 n1 l1 p1) ++ []) = _
    rw [List.append_nil])
  have HEN : Hid (envS ρ (.mk 3 n [.mk k0 n0 l0 p0, .mk k1 n1 l1 p1] p) = some (1, n, L) :: ρ) := Lib.hid (by rw [← hL]; simp [envS, argc])
  have HSG : Hid (defsE σ = defsE (some (1, n, L) :: ρ) ∧ (defsE σ).length = (defsE ρ).length + 1 ∧ depthE σ = depthE ρ + 1 ∧ σ.all (·.isSome) = false) := Lib.hid (by
    rw [← hσ]
    exact ⟨rfl, by simp [defsE], rfl, rfl⟩)
  have HLN : Hid (DU.length ≤ 1 ∧ (parE σ l0).length ≤ L ∧ L ≤ wtL l0 ∧ wtN (.mk 3 n [.mk k0 n0 l0 p0, .mk k1 n1 l1 p1] p) = (wtL l0 + n0.length + 1) + (wtL l1 + n1.length + 1) + n.length + 1) := Lib.hid ⟨by rw [← hDU]; exact defE_len _ _ _ _, by rw [← hL]; exact parE_len _ _, by rw [← hL]; exact len_wtL _, by
    rw [wtN_mk]
    show wtN _ + (wtN _ + 0) + _ + _ = _
    rw [wtN_mk k0, wtN_mk k1]⟩
  obtain ⟨G, hG⟩ : ∃ G, fnB n = G := ⟨_, rfl⟩
  obtain ⟨D, hD⟩ : ∃ D, (G.isSome || (findE ρ 1 n true).isSome) = D := ⟨_, rfl⟩
  have HDU : Hid (DU = if D then [.bad 280 n p] else []) := Lib.hid (by rw [← hDU, ← hD, ← hG]; rfl)
  have HDD := Lib.hid hD
  have HLL := Lib.hid hL
  have HSS := Lib.hid hσ
  have cb := fun W => rbuiltin1 n W
  rw [hG] at cb
  clear hA hrow hall hbd h hB hY hDU hσ hG hD hL
  go_enter Tryz.func226, Tryz.ntmps226
  go_upto_region 1 with (fail)
  obtain ⟨a, ha⟩ : ∃ a, w.heap.size = a := ⟨_, rfl⟩
  rw [ha] at HB hne ⊢
  clear ha
  generalize World.alloc w (.cells #[.int .i64 3, .string ⟨n.toArray⟩, .slice y (2 : Nat) c, .int .i64 p] 53) = W at H0 HB HSB ⊢
  obtain ⟨x0, x1, x2, x3, xf⟩ := HB.out.facts
  have cb := cb W
  go_wp2_with fail
  refine cb.mono ?_
  clear cb
  rintro e w1 ⟨rfl, rfl⟩
  go_upto_region 5 with (fail)
  go_cut [26] from 18 to 26 (fun v wx => v = .bool D ∧ RGo Γ w ρ m F fr ca [] wx ∧ Box4 wx a (.int .i64 3) (.string ⟨n.toArray⟩) (.slice y (2 : Nat) c) (.int .i64 p) ∧ Γ.B ≤ wx.heap.size)
  case first =>
    have co := H0.out.own1 (by have := HBD.out.1; omega) HALL.out 1 n
    have HK : Hid (∀ w5, OwR Γ W w5 → Box4 w5 a (.int .i64 3) (.string ⟨n.toArray⟩) (.slice y (2 : Nat) c) (.int .i64 p) ∧ Γ.B ≤ w5.heap.size) := Lib.hid fun w5 ho => ⟨HB.out.owr ho hne, Nat.le_trans HSB.out ho.size⟩
    obtain ⟨O, hO⟩ : ∃ O, (findE ρ 1 n true).isSome = O := ⟨_, rfl⟩
    rw [hO] at co
    have HO := Lib.hid hO
    clear hO
    cases G with
    | none =>
      rw [show argI none = -1 from rfl]
      have Qm : ¬ (-1 : Int) ≥ 0 := by decide
      go_wp2_with fail
      refine co.mono ?_
      clear co x0 x1 x2 x3 xf
      rintro e w5 ⟨rfl, ho5, hg5⟩
      have H5 := Lib.hid (⟨ho5, hg5⟩ : _ ∧ _)
      clear ho5 hg5
      go_wp2_with fail
      go_meet
      exact ⟨by rw [← HDD.out, HO.out]; rfl, H5.out.2, HK.out _ H5.out.1⟩
    | some fa =>
      rw [show argI (some fa) = (fa : Int) from rfl]
      have Qa : ((fa : Nat) : Int) ≥ 0 := by omega
      clear co
      go_wp2_with fail
      go_meet
      exact ⟨by rw [← HDD.out]; rfl, H0.out, HB.out, HSB.out⟩
  case rest =>
  clear x0 x1 x2 x3 xf H0 HB HSB
  obtain ⟨rfl, hg, hbx, hsz⟩ := hcut
  have H0 := Lib.hid hg
  have HB := Lib.hid hbx
  have HSB := Lib.hid hsz
  clear hg hbx hsz
  go_upto_if 26 with (fail)
  go_cut [] from 27 to 29 (fun wx => RGo Γ w ρ m F fr ca DU wx ∧ Box4 wx a (.int .i64 3) (.string ⟨n.toArray⟩) (.slice y (2 : Nat) c) (.int .i64 p) ∧ Γ.B ≤ wx.heap.size)
  case first =>
    obtain ⟨x0, x1, x2, x3, xf⟩ := HB.out.facts
    cases D
    · go_wp2_with fail
      go_meet
      exact ⟨by rw [HDU.out]; exact H0.out, HB.out, HSB.out⟩
    · have cW := H0.out.wrong1 3 n y 2 c p 280
      go_wp2_with fail
      refine cW.mono ?_
      clear cW x0 x1 x2 x3 xf
      rintro e w6 ⟨rfl, ho6, hg6⟩
      have H6 := Lib.hid (⟨hg6, HB.out.owr ho6 hne, Nat.le_trans HSB.out ho6.size⟩ : _ ∧ _ ∧ _)
      clear ho6 hg6
      go_wp2_with fail
      go_meet
      exact ⟨by rw [HDU.out]; exact H6.out.1, H6.out.2⟩
  case rest =>
  clear H0 HB HSB
  obtain ⟨hg, hbx, hsz⟩ := hcut
  have HG := Lib.hid (⟨hbx, hsz⟩ : _ ∧ _)
  obtain ⟨B, o, rfl, hat, B', o', hq, hat2, -⟩ := HROW.out.owr hg.own HLO.out.1
  cases hq
  have HAT : Hid (∀ w5, OwR Γ wc w5 → NdAt w5 (fun b => b < Γ.B) (.mk k0 n0 l0 p0) B o ∧ NdAt w5 (fun b => b < Γ.B) (.mk k1 n1 l1 p1) B (o + 4)) := Lib.hid fun w5 ho => by
    have h1 : NdRow wc (fun b => b < Γ.B) [.mk k0 n0 l0 p0, .mk k1 n1 l1 p1] (some ⟨B, o, none⟩) := ⟨_, _, rfl, hat, _, _, rfl, hat2, trivial⟩
    obtain ⟨B', o', hq, hat, B2, o2, hq2, hat2, -⟩ := h1.owr ho HLO.out.1
    cases hq
    cases hq2
    exact ⟨hat, hat2⟩
  clear hbx hsz hat hat2 HROW
  -- it is defined
  go_upto_region 7 with (fail)
  obtain ⟨x0, x1, x2, x3, xf⟩ := HG.out.1.facts
  obtain ⟨y1, c1, z0, z1, z2, z3, -, -⟩ := (HAT.out _ (OwR.refl _ _)).1.facts
  rw [HLL.out] at z2
  go_still_tail 10, (by kernel_rfl)
  clear x0 x1 x2 x3 xf z0 z1 z2 z3
  change wpList _ _ _ _ _ (World.drew wc)
  have HOa : Hid (OwR Γ wc wc.drew) := Lib.hid (OwR.of_below (Below.refl _ _).drew)
  have HGa := Lib.hid (hg.below (Below.refl _ _).drew)
  clear hg
  generalize World.drew wc = wa at *
  obtain ⟨x0, x1, x2, x3, xf⟩ := (HG.out.1.owr HOa.out hne).facts
  obtain ⟨y1, c1, z0, z1, z2, z3, -, -⟩ := (HAT.out _ HOa.out).1.facts
  rw [HLL.out] at z2
  have cd := HGa.out.define1 (by have := HBD.out.1; omega) (Nat.le_trans HG.out.2 HOa.out.size) 1 n L
  go_wp2_with fail
  refine cd.mono ?_
  clear cd x0 x1 x2 x3 xf z0 z1 z2 z3
  rintro e w2 ⟨rfl, ho2, hg2⟩
  have HO2 := Lib.hid (HOa.out.trans ho2)
  have ce := hg2.enter1 (by have := HBD.out.2.1; show depthE ρ < _; omega)
  clear ho2 hg2 HOa HGa
  go_wp2_with fail
  refine ce.mono ?_
  clear ce
  rintro e w3 ⟨rfl, ho3, hg3⟩
  rw [HSS.out] at hg3
  have HO3 := Lib.hid (HO2.out.trans ho3)
  obtain ⟨x0, x1, x2, x3, xf⟩ := (HG.out.1.owr HO3.out hne).facts
  obtain ⟨y1, c1, z0, z1, z2, z3, hr1, -⟩ := (HAT.out _ HO3.out).1.facts
  have cp := hg3.params1 (c := c1) hr1 (Nat.le_trans HG.out.2 HO3.out.size) HSG.out.2.2.2 (by have := HBD.out.1; have := HLN.out; have := HLL.out; have := HSG.out; omega)
  rw [HLL.out] at cp z2
  have HLV : Hid (∀ (w5 : World) (ev : List Ev) (j : Nat), RGo Γ w (parV σ (l0.take j)) m F fr ca ev w5 → Calls Tryz.prog 186 #[.pointer (some ⟨Γ.wb, 0, none⟩), .int .i64 (defsE (some (1, n, L) :: ρ)).length] w5 fun e w' => e = .returned (.tuple #[]) ∧ OwR Γ w5 w' ∧ RGo Γ w (some (1, n, L) :: ρ) m F fr ca ev w') := Lib.hid fun w5 ev j h => by
    obtain ⟨t, ht⟩ := parV_defs (l0.take j) σ
    rw [HSG.out.1] at ht
    exact h.leave1 (by have := HBD.out.2.1; show depthE ρ < _; omega) (by rw [parV_depth, HSG.out.2.2.1]; rfl) ht
  obtain ⟨dl, hdl⟩ : ∃ d, (defsE (some (1, n, L) :: ρ)).length = d := ⟨_, rfl⟩
  rw [hdl] at HLV ⊢
  clear ho3 hg3 HO2 hdl hr1
  go_wp2_with fail
  refine cp.mono ?_
  clear cp x0 x1 x2 x3 xf z0 z1 z2 z3
  rintro e w4 ⟨rfl, ho4, j, hj, hg4, hor⟩
  have HO4 := Lib.hid (HO3.out.trans ho4)
  have H4 := Lib.hid (⟨hg4, hj, hor⟩ : _ ∧ _ ∧ _)
  have c0 := hg4.on1
  obtain ⟨O, hO⟩ : ∃ O, onR Γ (F.or (wrongE (DU ++ parE σ l0))) = O := ⟨_, rfl⟩
  rw [hO] at c0
  have HO := Lib.hid hO
  clear ho4 hg4 hj hor HO3 hO
  cases O
  · have cl := HLV.out w4 _ j (RGo.skip H4.out.1 HO.out (evE (parV σ l0) (.mk k1 n1 l1 p1)))
    go_wp2_with fail
    refine c0.mono ?_
    clear c0
    rintro e w5 ⟨rfl, rfl⟩
    go_wp2_with fail
    refine cl.mono ?_
    clear cl
    rintro e w6 ⟨rfl, -, hg6⟩
    have HEND : Hid (RGo Γ w (envS ρ (.mk 3 n [.mk k0 n0 l0 p0, .mk k1 n1 l1 p1] p)) m F fr ca (evS (.mk 3 n [.mk k0 n0 l0 p0, .mk k1 n1 l1 p1] p) ρ m) w6) := Lib.hid (by
      rw [HEV.out, HEN.out]
      exact hg6)
    clear hg6
    go_wp2_with fail
    go_end0
    exact ⟨rfl, HEND.out⟩
  · have H5 : Hid (RGo Γ w (parV σ l0) m F fr ca (DU ++ parE σ l0) w4) := Lib.hid (by
      have h1 := H4.out.2.2
      rw [HO.out] at h1
      have h2 := H4.out.1
      rcases h1 with h1 | h1
      · rwa [List.take_of_length_le (by have := HLL.out; omega)] at h2
      · cases h1)
    have HPL : Hid ((defsE (parV σ l0)).length = (defsE ρ).length + 1 + L ∧ depthE (parV σ l0) = depthE ρ + 1) := Lib.hid ⟨by rw [parV_len, HSG.out.2.1, HLL.out], by rw [parV_depth, HSG.out.2.2.1]⟩
    have HES : Hid ((DU ++ parE σ l0).length ≤ 1 + L) := Lib.hid (by rw [List.length_append]; have := HLN.out; omega)
    obtain ⟨y2, c2, z0, z1, z2, z3, -, hv2⟩ := (HAT.out _ HO4.out).2.facts
    obtain ⟨x0, x1, x2, x3, xf⟩ := (HG.out.1.owr HO4.out hne).facts
    have HEL : Hid ((evE (parV σ l0) (.mk k1 n1 l1 p1)).length ≤ 2 * (wtL l1 + n1.length + 1)) := Lib.hid (by rw [← wtN_mk k1 n1 l1 p1]; exact evE_len _ _)
    have cb := H5.out.expr1 HY.out hv2 (Nat.le_trans HG.out.2 HO4.out.size) (by have := HPL.out.1; have := HLN.out; have := HBD.out.1; omega)
      (by have := HES.out; have := HLN.out; have := HEL.out; have := HBD.out.2.2.1; omega) (by have := HES.out; have := HLN.out; have := HEL.out; have := HBD.out.2.2.2.1; omega)
    clear hv2
    go_wp2_with fail
    refine c0.mono ?_
    clear c0
    rintro e w5 ⟨rfl, rfl⟩
    go_wp2_with fail
    refine cb.mono ?_
    clear cb x0 x1 x2 x3 xf z0 z1 z2 z3
    rintro e w5 ⟨rfl, -, hg5⟩
    have cl := HLV.out w5 _ l0.length (by rw [List.take_length]; exact hg5)
    clear hg5
    go_wp2_with fail
    refine cl.mono ?_
    clear cl
    rintro e w6 ⟨rfl, -, hg6⟩
    have HEND : Hid (RGo Γ w (envS ρ (.mk 3 n [.mk k0 n0 l0 p0, .mk k1 n1 l1 p1] p)) m F fr ca (evS (.mk 3 n [.mk k0 n0 l0 p0, .mk k1 n1 l1 p1] p) ρ m) w6) := Lib.hid (by
      rw [HEV.out, HEN.out]
      exact hg6)
    clear hg6
    go_wp2_with fail
    go_end0
    exact ⟨rfl, HEND.out⟩
end Go.Proofs.YtpbkeamjdolpgaaGreatDoor
namespace Go.Proofs.YtpbkeamjdolpgaaGreatDoor
open Go.RowKit Go.Lib

def CallR (Γ : RCtx) (x : Nd) : Prop := ∀ (w : World) (ρ : Env) (m : Nat) (F : FltR) (fr ca : List (List UInt8)) (v : Value), NdVal w (fun b => b < Γ.B) x v → RW Γ w (defsE ρ) (depthE ρ) m F fr ca → Γ.B ≤ w.heap.size → ρ.all (·.isSome) = false → RBd ρ m fr ca (wtN x) →
  Calls Tryz.prog 227 #[.pointer (some ⟨Γ.wb, 0, none⟩), v] w fun e w' => e = .returned (.tuple #[]) ∧ RGo Γ w (envS ρ x) m F fr ca (evS x ρ m) w'
def swE (M : Option (Nat × Bool)) (L K : Nat) (n : List UInt8) (p : Int) : List Ev := match M with
  | none => [.miss n p]
  | some (a, bl) => if L ≠ a ∨ (1 < K ∧ bl = false) then [.bad 281 n p] else []
theorem callE_sw (ρ : Env) (m : Nat) (n : List UInt8) (kids : List Nd) (p : Int) : callE ρ m n kids p = [.call n] ++ swE (mdlE ρ m n) (argc kids) kids.length n p := by
  show _ :: _ = _ :: _
  congr 1
set_option maxHeartbeats 4000000 in
set_option maxRecDepth 100000 in
theorem rcall_any (Γ : RCtx) (n : List UInt8) (k0 : Int) (n0 : List UInt8) (l0 : List Nd) (p0 : Int) (r : List Nd) (p : Int) (hr : r.length ≤ 1) (hX : ∀ x ∈ l0, ExprR Γ x) (hY : ∀ b ∈ r, BlockR Γ b.kids) : CallR Γ (.mk 7 n (.mk k0 n0 l0 p0 :: r) p) := by
  intro w ρ m F fr ca v hv h hB hall hbd
  obtain ⟨y, cv, rfl, hrow⟩ := hv
  generalize cv.val = c
  clear cv
  obtain ⟨K, hK⟩ : ∃ K, (Nd.mk k0 n0 l0 p0 :: r).length = K := ⟨_, rfl⟩
  rw [hK]
  have hA : Below w.heap.size w (w.alloc (.cells #[.int .i64 7, .string ⟨n.toArray⟩, .slice y K c, .int .i64 p] 53)) := (Below.refl _ _).alloc (Nat.le_refl _) _
  have HLO : Hid (Γ.B ≤ Γ.wb ∧ Γ.wb < w.heap.size) := by
    obtain ⟨dv, fp, fv, cv, h⟩ := h
    exact ⟨h.low, h.lt⟩
  have HOW := Lib.hid (OwR.of_below (Γ := Γ) hA)
  have HRW := Lib.hid (h.below hA)
  have HB := Lib.hid (Box4.new w (.int .i64 7) (.string ⟨n.toArray⟩) (.slice y K c) (.int .i64 p))
  have HROW := Lib.hid hrow
  have HBD := Lib.hid hbd
  have HX := Lib.hid hX
  have HY := Lib.hid hY
  have HRR := Lib.hid hr
  have HSB : Hid (Γ.B ≤ (w.alloc (.cells #[.int .i64 7, .string ⟨n.toArray⟩, .slice y K c, .int .i64 p] 53)).heap.size) := Lib.hid (by simp; omega)
  have hne : w.heap.size ≠ Γ.wb := by have := HLO.out; omega
  obtain ⟨L, hL⟩ : ∃ L, l0.length = L := ⟨_, rfl⟩
  obtain ⟨M, hM⟩ : ∃ M, mdlE ρ m n = M := ⟨_, rfl⟩
  obtain ⟨SW, hSW⟩ : ∃ S, swE M L K n p = S := ⟨_, rfl⟩
  obtain ⟨CE, hCE⟩ : ∃ C, callE ρ m n (.mk k0 n0 l0 p0 :: r) p = C := ⟨_, rfl⟩
  have HCS : Hid (CE = [.call n] ++ SW) := Lib.hid (by
    rw [← hCE, callE_sw, hM, hK, ← hSW, ← hL]
    rfl)
  have HEV : Hid (evS (.mk 7 n (.mk k0 n0 l0 p0 :: r) p) ρ m = (CE ++ evEs ρ l0) ++ evBs r ρ m) := Lib.hid (by
    rw [evS, if_neg (by decide), if_neg (by decide), if_neg (by decide), if_neg (by decide), if_neg (by decide), hCE]
    rfl)
  have HEN : Hid (envS ρ (.mk 7 n (.mk k0 n0 l0 p0 :: r) p) = ρ) := Lib.hid (by simp [envS])
  have HLN : Hid (CE.length ≤ 2 ∧ L ≤ wtL l0 ∧ wtN (.mk 7 n (.mk k0 n0 l0 p0 :: r) p) = (wtL l0 + n0.length + 1) + wtL r + n.length + 1 ∧ K = r.length + 1) := Lib.hid ⟨by rw [← hCE]; exact callE_len _ _ _ _ _, by rw [← hL]; exact len_wtL _, by
    rw [wtN_mk]
    show wtN _ + wtL r + _ + _ = _
    rw [wtN_mk k0], hK.symm⟩
  have HLL := Lib.hid hL
  have HMM := Lib.hid hM
  have HSW := Lib.hid hSW
  obtain ⟨X, hX1⟩ : ∃ X, lastD 2 n (defsE ρ) = X := ⟨_, rfl⟩
  obtain ⟨G, hG⟩ : ∃ G, mdB n = G := ⟨_, rfl⟩
  have HM1 : Hid (∀ d, X = some d → M = some (d.2.2.1, true)) := Lib.hid fun d hd => by
    have h1 := lastD_find ρ 2 n
    rw [hX1, hd] at h1
    have h1 : findE ρ 2 n false = some d.2.2.1 := h1.symm
    rw [← hM]
    unfold mdlE
    rw [h1]
    rfl
  have HM2 : Hid (X = none → M = if n = wChildren ∧ m = 0 then none else G) := Lib.hid fun hd => by
    have h1 := lastD_find ρ 2 n
    rw [hX1, hd] at h1
    have h1 : findE ρ 2 n false = none := h1.symm
    rw [← hM, ← hG]
    unfold mdlE
    rw [h1]
    rfl
  have cb := fun W => rbuiltin2 n W
  rw [hG] at cb
  have HX1 := Lib.hid hX1
  clear hA hrow hall hbd h hB hX hY hK hL hM hSW hCE hX1 hG hr
  go_enter Tryz.func227, Tryz.ntmps227
  go_upto_region 1 with (fail)
  obtain ⟨a, ha⟩ : ∃ a, w.heap.size = a := ⟨_, rfl⟩
  rw [ha] at HB hne ⊢
  clear ha
  generalize World.alloc w (.cells #[.int .i64 7, .string ⟨n.toArray⟩, .slice y K c, .int .i64 p] 53) = W at HOW HRW HB HSB ⊢
  obtain ⟨x0, x1, x2, x3, xf⟩ := HB.out.facts
  have HPUT : Hid (∃ fv dv fp cv, RB Γ W dv (defsE ρ) (depthE ρ) m fp F fv fr cv ca) := by
    obtain ⟨dv, fp, fv, cv, h⟩ := HRW.out
    exact ⟨fv, dv, fp, cv, h⟩
  obtain ⟨fv, dv, fp, cv, hrb⟩ := HPUT.out
  have HRB := Lib.hid hrb
  obtain ⟨-, -, -, -, -, -, x6, xf6⟩ := hrb.cells
  have cP := rput_any ca n (by have := HBD.out.2.2.2.1; omega) Γ.B cv W.drew hrb.cal HSB.out
  clear hrb
  go_cut [] from 9 to 18 (fun wx => OwR Γ W wx ∧ RW Γ wx (defsE ρ) (depthE ρ) m F fr (putS ca n))
  case first =>
    go_region_with (first | (go_at_call 243; (with_reducible refine cP.mono ?_); rintro e w2 ⟨v2, rfl, hown2, hb2⟩; obtain ⟨a2, c2, rfl, -⟩ := names_at hown2; have AA : Below W.heap.size W w2 := ((Below.refl _ _).drew : Below W.heap.size W W.drew).trans hb2; obtain ⟨-, -, -, -, -, -, y6, yf⟩ := (HRB.out.below AA).cells; have yf6 := yf 6))
    all_goals (
      have HEND : Hid (OwR Γ W (w2.setCell ⟨Γ.wb, 6, none⟩ (.slice a2 (putS ca n).length c2)) ∧ RW Γ (w2.setCell ⟨Γ.wb, 6, none⟩ (.slice a2 (putS ca n).length c2)) (defsE ρ) (depthE ρ) m F fr (putS ca n)) := Lib.hid ⟨(OwR.of_below AA).setCell _ _, ⟨_, _, _, _, (HRB.out.below AA).setCalls hown2⟩⟩
      go_wp2_with fail
      go_meet
      exact HEND.out)
  case rest =>
  obtain ⟨ho1, hr1⟩ := hcut
  have H1 := Lib.hid (RGo.call (HOW.out.trans ho1) hr1)
  have HB1 := Lib.hid (HB.out.owr ho1 hne)
  have HS1 := Lib.hid (Nat.le_trans HSB.out ho1.size)
  clear x0 x1 x2 x3 xf x6 xf6 cP HPUT HRB HRW HOW HB HSB ho1 hr1 cv dv fp fv
  obtain ⟨x0, x1, x2, x3, xf⟩ := HB1.out.facts
  have cb := cb wc
  obtain ⟨A0, hA0⟩ : ∃ A, argI (G.map (·.1)) = A := ⟨_, rfl⟩
  obtain ⟨B0, hB0⟩ : ∃ B, (G.map (·.2)).getD false = B := ⟨_, rfl⟩
  rw [hA0, hB0] at cb
  have HAB0 := Lib.hid (⟨hA0, hB0⟩ : _ ∧ _)
  clear hA0 hB0
  go_wp2_with fail
  refine cb.mono ?_
  clear cb
  rintro e w1 ⟨rfl, rfl⟩
  go_upto_region 3 with (fail)
  go_cut [6, 7] from 25 to 31 (fun v6 v7 wx => ∃ b : Nat, v6 = .pointer (some ⟨b, 0, none⟩) ∧ v7 = .bool X.isSome ∧ (∀ d, X = some d → wx.cell? ⟨b, 2, none⟩ = some (.int .i64 (d.2.2.1 : Nat))) ∧ Below wc.heap.size wc wx)
  case first =>
    have cf := H1.out.find1 (by have := HBD.out.1; omega) 2 n
    rw [HX1.out] at cf
    go_wp2_with fail
    refine cf.mono ?_
    clear cf
    rintro e w2 ⟨rfl, hb2⟩
    cases X with
    | some d =>
      obtain ⟨k', s', ar, de⟩ := d
      rw [show dfV (some (k', s', ar, de)) = .agg #[.int .i64 k', .string ⟨s'.toArray⟩, .int .i64 ar, .int .i64 de] from rfl, show (some (k', s', ar, de)).isSome = true from rfl]
      have HE : Hid (w2.heap.size = w2.heap.size ∧ (w2.alloc (.cells #[.int .i64 k', .string ⟨s'.toArray⟩, .int .i64 ar, .int .i64 de] 265)).cell? ⟨w2.heap.size, 2, none⟩ = some (.int .i64 ar) ∧ Below wc.heap.size wc (w2.alloc (.cells #[.int .i64 k', .string ⟨s'.toArray⟩, .int .i64 ar, .int .i64 de] 265))) := Lib.hid ⟨rfl, (BoxD.facts (w := w2.alloc (.cells #[.int .i64 k', .string ⟨s'.toArray⟩, .int .i64 ar, .int .i64 de] 265)) (heap_alloc_new w2 _)).2.2.1, hb2.alloc hb2.size _⟩
      clear hb2
      go_wp2_with fail
      go_meet
      exact ⟨_, rfl, rfl, fun d hd => by cases hd; exact HE.out.2.1, HE.out.2.2⟩
    | none =>
      rw [show dfV none = .agg #[.int .i64 0, .string ⟨#[]⟩, .int .i64 0, .int .i64 0] from rfl, show (none : Option DefR).isSome = false from rfl]
      have HE : Hid (Below wc.heap.size wc (w2.alloc (.cells #[.int .i64 0, .string ⟨#[]⟩, .int .i64 0, .int .i64 0] 265))) := Lib.hid (hb2.alloc hb2.size _)
      clear hb2
      go_wp2_with fail
      go_meet
      exact ⟨_, rfl, rfl, fun d hd => (by cases hd), HE.out⟩
  case rest =>
  obtain ⟨b6, rfl, rfl, hd6, hb6⟩ := hcut
  have H2 := Lib.hid (H1.out.below hb6)
  have HB2 := Lib.hid (HB1.out.owr (.of_below hb6 : OwR Γ _ _) hne)
  have HS2 := Lib.hid (Nat.le_trans HS1.out hb6.size)
  have HD6 := Lib.hid hd6
  clear x0 x1 x2 x3 xf H1 HB1 HS1 hd6 hb6
  go_upto_if 32 with (fail)
  go_cut [4, 5] from 33 to 34 (fun v4 v5 wx => ∃ (A : Int) (BL : Bool), v4 = .int .i64 A ∧ v5 = .bool BL ∧ wx = wc ∧ (∀ d, X = some d → A = (d.2.2.1 : Nat) ∧ BL = true) ∧ (X = none → A = A0 ∧ BL = B0))
  case first =>
    cases X with
    | some d =>
      have z2 := HD6.out d rfl
      rw [show (some d).isSome = true from rfl]
      go_wp2_with fail
      go_meet
      exact ⟨_, _, rfl, rfl, rfl, fun d hd => by cases hd; exact ⟨rfl, rfl⟩, fun hd => by cases hd⟩
    | none =>
      rw [show (none : Option DefR).isSome = false from rfl]
      go_wp2_with fail
      go_meet
      exact ⟨_, _, rfl, rfl, rfl, fun d hd => (by cases hd), fun _ => ⟨rfl, rfl⟩⟩
  case rest =>
  obtain ⟨A, BL, rfl, rfl, rfl, ha1, ha2⟩ := hcut
  have HA1 := Lib.hid ha1
  have HA2 := Lib.hid ha2
  clear ha1 ha2 HD6
  go_upto_block 0 with (fail)
  go_cut [] from 35 to 78 (fun wx => RGo Γ w ρ m F fr ca CE wx ∧ Box4 wx a (.int .i64 7) (.string ⟨n.toArray⟩) (.slice y K c) (.int .i64 p) ∧ Γ.B ≤ wx.heap.size)
  case first =>
    obtain ⟨x0, x1, x2, x3, xf⟩ := HB2.out.facts
    obtain ⟨i2, if2⟩ := H2.out.in_
    go_upto_region 7 with (fail)
    go_cut [35] from 36 to 53 (fun v wx => v = .bool M.isNone ∧ wx = wc)
    case first =>
      cases X with
      | some d =>
        obtain ⟨hA, hBL⟩ := HA1.out d rfl
        have HV : Hid (M.isNone = false) := Lib.hid (by rw [HM1.out d rfl]; rfl)
        have Qa : ¬ A < 0 := by omega
        rw [show (some d).isSome = true from rfl]
        clear hA hBL
        by_cases hch : n = wChildren
        · rw [hch] at x1
          unfold wChildren at x1
          clear hch
          by_cases hm : m = 0
          · subst hm
            go_wp2_with fail
            go_meet
            exact ⟨by rw [HV.out], rfl⟩
          · have hm2 : ((m : Int) == 0) = false := by simp [hm]
            clear hm
            go_wp2_with fail
            go_meet
            exact ⟨by rw [HV.out], rfl⟩
        · have Q1 := str_ne hch
          unfold wChildren at Q1
          clear hch
          go_wp2_with fail
          go_meet
          exact ⟨by rw [HV.out], rfl⟩
      | none =>
        obtain ⟨hA, hBL⟩ := HA2.out rfl
        have hM2 := HM2.out rfl
        rw [show (none : Option DefR).isSome = false from rfl]
        cases G with
        | none =>
          have HV : Hid (M.isNone = true) := Lib.hid (by rw [hM2]; split <;> rfl)
          have Qa : A < 0 := by rw [hA, ← HAB0.out.1]; decide
          clear hA hBL hM2
          go_wp2_with fail
          go_meet
          exact ⟨by rw [HV.out], rfl⟩
        | some gb =>
          have Qa : ¬ A < 0 := by rw [hA, ← HAB0.out.1]; show ¬ ((gb.1 : Nat) : Int) < 0; omega
          clear hA hBL
          by_cases hch : n = wChildren
          · by_cases hm : m = 0
            · have HV : Hid (M.isNone = true) := Lib.hid (by rw [hM2, if_pos ⟨hch, hm⟩]; rfl)
              rw [hch] at x1
              unfold wChildren at x1
              subst hm
              clear hch hM2
              go_wp2_with fail
              go_meet
              exact ⟨by rw [HV.out], rfl⟩
            · have HV : Hid (M.isNone = false) := Lib.hid (by rw [hM2, if_neg (fun h => hm h.2)]; rfl)
              rw [hch] at x1
              unfold wChildren at x1
              have hm2 : ((m : Int) == 0) = false := by simp [hm]
              clear hm hch hM2
              go_wp2_with fail
              go_meet
              exact ⟨by rw [HV.out], rfl⟩
          · have HV : Hid (M.isNone = false) := Lib.hid (by rw [hM2, if_neg (fun h => hch h.1)]; rfl)
            have Q1 := str_ne hch
            unfold wChildren at Q1
            clear hch hM2
            go_wp2_with fail
            go_meet
            exact ⟨by rw [HV.out], rfl⟩
    case rest =>
    obtain ⟨rfl, rfl⟩ := hcut
    clear i2 if2
    cases M with
    | none =>
      rw [show (none : Option (Nat × Bool)).isNone = true from rfl]
      have cF := H2.out.free1 (by have := HBD.out.2.2.1; have := HLN.out.2.2.1; show _ + 1 < _; omega) 7 n y K c p
      have HE : Hid (CE = [.call n] ++ [.miss n p]) := Lib.hid (by rw [HCS.out, ← HSW.out]; rfl)
      go_wp2_with fail
      refine cF.mono ?_
      clear cF x0 x1 x2 x3 xf
      rintro e w6 ⟨rfl, ho6, hg6⟩
      have H6 := Lib.hid (⟨hg6, HB2.out.owr ho6 hne, Nat.le_trans HS2.out ho6.size⟩ : _ ∧ _ ∧ _)
      clear ho6 hg6
      go_wp2_with fail
      go_meet
      exact ⟨by rw [HE.out]; exact H6.out.1, H6.out.2⟩
    | some ab =>
      obtain ⟨ar, bl⟩ := ab
      rw [show (some (ar, bl)).isNone = false from rfl]
      have hAB : A = (ar : Int) ∧ BL = bl := by
        cases X with
        | some d =>
          have h1 := HM1.out d rfl
          cases h1
          exact HA1.out d rfl
        | none =>
          have h1 := HM2.out rfl
          obtain ⟨h2, h3⟩ := HA2.out rfl
          split at h1
          · cases h1
          · rw [h2, h3, ← HAB0.out.1, ← HAB0.out.2, ← h1]
            exact ⟨rfl, rfl⟩
      obtain ⟨rfl, rfl⟩ := hAB
      have HAT : Hid (∀ w5, OwR Γ w w5 → ∃ B o, y = some ⟨B, o, none⟩ ∧ NdAt w5 (fun b => b < Γ.B) (.mk k0 n0 l0 p0) B o) := Lib.hid fun w5 ho => by
        obtain ⟨B, o, hy, hat, -⟩ := HROW.out.owr ho HLO.out.1
        exact ⟨B, o, hy, hat⟩
      obtain ⟨B, o, rfl, hat⟩ := HAT.out _ H2.out.own
      obtain ⟨y1, c1, z0, z1, z2, z3, -, -⟩ := hat.facts
      rw [HLL.out] at z2
      obtain ⟨D, hD⟩ : ∃ D, decide (L ≠ ar ∨ (1 < K ∧ BL = false)) = D := ⟨_, rfl⟩
      have HD := Lib.hid hD
      have hK0 : 0 < K := by have := HLN.out.2.2.2; omega
      have hKs : K < 2 ^ 40 := by have := HLN.out.2.2.2; have := HRR.out; omega
      clear hat hD
      go_upto_region 9 with (fail)
      go_cut [57] from 58 to 75 (fun v wx => v = .bool D ∧ wx = wc)
      case first =>
        by_cases hL : L = ar
        · have Q1 : ((L : Int) != (ar : Int)) = false := by simp [hL]
          by_cases hK1 : 1 < K
          · have Q2 : (1 : Int) < (K : Int) := by omega
            cases BL
            · have HV : Hid (D = true) := Lib.hid (by rw [← HD.out]; simp [hK1])
              clear hL hK1
              go_wp2_with fail
              go_meet
              exact ⟨by rw [HV.out], rfl⟩
            · have HV : Hid (D = false) := Lib.hid (by rw [← HD.out]; simp [hL])
              clear hL hK1
              go_wp2_with fail
              go_meet
              exact ⟨by rw [HV.out], rfl⟩
          · have Q2 : ¬ (1 : Int) < (K : Int) := by omega
            have HV : Hid (D = false) := Lib.hid (by rw [← HD.out]; simp [hL, hK1])
            clear hL hK1
            go_wp2_with fail
            go_meet
            exact ⟨by rw [HV.out], rfl⟩
        · have Q1 : ((L : Int) != (ar : Int)) = true := by
            rw [bne_iff_ne]
            omega
          have HV : Hid (D = true) := Lib.hid (by rw [← HD.out]; simp [hL])
          clear hL
          go_wp2_with fail
          go_meet
          exact ⟨by rw [HV.out], rfl⟩
      case rest =>
      obtain ⟨rfl, rfl⟩ := hcut
      clear z0 z1 z2 z3
      cases D
      · have HE : Hid (CE = [.call n]) := Lib.hid (by
          rw [HCS.out, ← HSW.out]
          unfold swE
          show [Ev.call n] ++ (if _ then _ else _) = _
          rw [if_neg (of_decide_eq_false HD.out)]
          rfl)
        go_wp2_with fail
        go_meet
        exact ⟨by rw [HE.out]; exact H2.out, HB2.out, HS2.out⟩
      · have HE : Hid (CE = [.call n] ++ [.bad 281 n p]) := Lib.hid (by
          rw [HCS.out, ← HSW.out]
          unfold swE
          show [Ev.call n] ++ (if _ then _ else _) = _
          rw [if_pos (of_decide_eq_true HD.out)])
        have cW := H2.out.wrong1 7 n (some ⟨B, o, none⟩) K c p 281
        go_wp2_with fail
        refine cW.mono ?_
        clear cW x0 x1 x2 x3 xf
        rintro e w6 ⟨rfl, ho6, hg6⟩
        have H6 := Lib.hid (⟨hg6, HB2.out.owr ho6 hne, Nat.le_trans HS2.out ho6.size⟩ : _ ∧ _ ∧ _)
        clear ho6 hg6
        go_wp2_with fail
        go_meet
        exact ⟨by rw [HE.out]; exact H6.out.1, H6.out.2⟩
  case rest =>
  clear H2 HB2 HS2 HA1 HA2 HAB0 HM1 HM2 HX1 HMM HSW HCS
  obtain ⟨hg, hbx, hsz⟩ := hcut
  have H3 := Lib.hid (⟨hg, hbx, hsz⟩ : _ ∧ _ ∧ _)
  have HAT : Hid (∀ w5, OwR Γ w w5 → NdRow w5 (fun b => b < Γ.B) (.mk k0 n0 l0 p0 :: r) y) := Lib.hid fun w5 ho => HROW.out.owr ho HLO.out.1
  obtain ⟨B, o, rfl, -, -⟩ := HAT.out _ hg.own
  have hK0 : 0 < K := by have := HLN.out.2.2.2; omega
  have hKs : K < 2 ^ 40 := by have := HLN.out.2.2.2; have := HRR.out; omega
  clear hg hbx hsz HROW
  go_upto_block 1 with (fail)
  go_cut [8] from 79 to 102 (fun _ wx => RGo Γ w ρ m F fr ca (CE ++ evEs ρ l0) wx ∧ Box4 wx a (.int .i64 7) (.string ⟨n.toArray⟩) (.slice (some ⟨B, o, none⟩) K c) (.int .i64 p) ∧ Γ.B ≤ wx.heap.size)
  case first =>
    go_wp2_with fail
    go_loopg [8] L (fun g v wx => ∃ i : Nat, v = .int .i64 i ∧ i + g = L ∧ RGo Γ w ρ m F fr ca (CE ++ evEs ρ (l0.take i)) wx ∧ Box4 wx a (.int .i64 7) (.string ⟨n.toArray⟩) (.slice (some ⟨B, o, none⟩) K c) (.int .i64 p) ∧ Γ.B ≤ wx.heap.size)
    case atStart => exact ⟨0, rfl, by omega, by rw [List.take_zero, evEs, List.append_nil]; exact H3.out.1, H3.out.2⟩
    case round =>
      clear H3
      obtain ⟨i, rfl, hi, hg, hbx, hsz⟩ := hrel
      have HG := Lib.hid (⟨hg, hbx, hsz⟩ : _ ∧ _ ∧ _)
      obtain ⟨x0, x1, x2, x3, xf⟩ := hbx.facts
      obtain ⟨B', o', hq, hat, -⟩ := HAT.out _ hg.own
      cases hq
      obtain ⟨y1, c1, z0, z1, z2, z3, hr1, -⟩ := hat.facts
      rw [HLL.out] at z2
      have hLs : L < 2 ^ 40 := by have := HLN.out; have := HBD.out.1; omega
      by_cases hlt : i < L
      · obtain ⟨x, hx⟩ : ∃ x, l0[i]? = some x := ⟨l0[i]'(by have := HLL.out; omega), List.getElem?_eq_getElem _⟩
        have hmem := List.mem_of_getElem? hx
        obtain ⟨B1, o1, rfl, hat1⟩ := hr1.at_ hx
        obtain ⟨k1, n1, l1, p1⟩ := x
        have htk : l0.take (i + 1) = l0.take i ++ [.mk k1 n1 l1 p1] := by rw [List.take_add_one, hx]; rfl
        have hevs : evEs ρ (l0.take (i + 1)) = evEs ρ (l0.take i) ++ evE ρ (.mk k1 n1 l1 p1) := by
          rw [htk, evEs_app]
          show _ ++ (evE ρ _ ++ []) = _
          rw [List.append_nil]
        have hcat : CE ++ evEs ρ l0 = (CE ++ evEs ρ (l0.take i)) ++ evEs ρ (l0.drop i) := by
          rw [List.append_assoc, ← evEs_app, List.take_append_drop]
        have HSN := Lib.hid (⟨hevs, hcat⟩ : _ ∧ _)
        have hbd : (CE ++ evEs ρ (l0.take i)).length + (evE ρ (.mk k1 n1 l1 p1)).length ≤ 2 + 2 * wtL l0 := by
          have h1 := evEs_len ρ (l0.take (i + 1))
          rw [hevs, List.length_append] at h1
          have h2 := wtL_app (l0.take (i + 1)) (l0.drop (i + 1))
          rw [List.take_append_drop] at h2
          have h3 := HLN.out.1
          rw [List.length_append]
          omega
        obtain ⟨y2, c2, u0, u1, u2, u3, -, hv1⟩ := hat1.facts
        have cx := hg.expr1 (HX.out _ hmem) hv1 hsz (by have := HBD.out.1; omega) (by have := HBD.out.2.2.1; have := HLN.out.2.2.1; omega) (by have := HBD.out.2.2.2.1; have := HLN.out.2.2.1; omega)
        have hlt' : (i : Int) < (L : Int) := by omega
        have Qi1 : IntKind.i64.wrap ((i : Int) + 1) = (i : Int) + 1 := IntWalk.i64_in _ (by omega)
        have c0 := hg.on1
        obtain ⟨O, hO⟩ : ∃ O, onR Γ (F.or (wrongE (CE ++ evEs ρ (l0.take i)))) = O := ⟨_, rfl⟩
        rw [hO] at c0
        have HO := Lib.hid hO
        clear hg hbx hsz hmem hx htk hevs hcat hbd hv1 hO hat hat1 hr1
        cases O
        · clear cx u0 u1 u2 u3
          go_wp2_with fail
          refine c0.mono ?_
          clear c0
          rintro e w1 ⟨rfl, rfl⟩
          go_wp2_with fail
          go_meet
          exact ⟨by rw [HSN.out.2]; exact RGo.skip HG.out.1 HO.out _, HG.out.2⟩
        · go_wp2_with fail
          refine c0.mono ?_
          clear c0
          rintro e w1 ⟨rfl, rfl⟩
          go_wp2_with fail
          refine cx.mono ?_
          clear cx u0 u1 u2 u3 z0 z1 z2 z3 x0 x1 x2 x3 xf
          rintro e w2 ⟨rfl, ho2, hg2⟩
          have HRES : Hid (RGo Γ w ρ m F fr ca (CE ++ evEs ρ (l0.take (i + 1))) w2) := by
            show RGo _ _ _ _ _ _ _ _ _
            rw [HSN.out.1, ← List.append_assoc]
            exact hg2
          have HB2 := Lib.hid (⟨HG.out.2.1.owr ho2 hne, Nat.le_trans HG.out.2.2 ho2.size⟩ : _ ∧ _)
          clear ho2 hg2
          go_wp2_with fail
          go_roundg (gk - 1)
          case measure => omega
          case rel => exact ⟨i + 1, rfl, by omega, HRES.out, HB2.out⟩
      · have hlt' : ¬ (i : Int) < (L : Int) := by omega
        have HEND : Hid (RGo Γ w ρ m F fr ca (CE ++ evEs ρ l0) wr) := Lib.hid (by
          have h1 := HG.out.1
          rwa [List.take_of_length_le (by have := HLL.out; omega)] at h1)
        clear hg hbx hsz hat hr1
        go_wp2_with fail
        go_meet
        exact ⟨HEND.out, HG.out.2⟩
  case rest =>
  clear H3
  obtain ⟨hg, hbx, hsz⟩ := hcut
  have HG := Lib.hid (⟨hg, hbx, hsz⟩ : _ ∧ _ ∧ _)
  obtain ⟨x0, x1, x2, x3, xf⟩ := hbx.facts
  have HES : Hid ((CE ++ evEs ρ l0).length ≤ 2 + 2 * wtL l0) := Lib.hid (by rw [List.length_append]; have := HLN.out.1; have := evEs_len ρ l0; omega)
  cases r with
  | nil =>
    obtain rfl : K = 1 := HLN.out.2.2.2
    have HEND : Hid (RGo Γ w (envS ρ (.mk 7 n [.mk k0 n0 l0 p0] p)) m F fr ca (evS (.mk 7 n [.mk k0 n0 l0 p0] p) ρ m) wc) := Lib.hid (by
      rw [HEV.out, HEN.out, evBs, List.append_nil]
      exact HG.out.1)
    clear hg hbx hsz
    go_wp2_with fail
    go_end0
    exact ⟨rfl, HEND.out⟩
  | cons b r =>
    obtain rfl : r = [] := List.length_eq_zero_iff.1 (by have h1 := HRR.out; rw [List.length_cons] at h1; omega)
    obtain rfl : K = 2 := HLN.out.2.2.2
    obtain ⟨k1, n1, l1, p1⟩ := b
    obtain ⟨B', o', hq, hat, B2, o2, hq2, hat2, -⟩ := HAT.out _ hg.own
    cases hq
    cases hq2
    obtain ⟨y1, c1, z0, z1, z2, z3, -, hv1⟩ := hat2.facts
    have HEV2 : Hid (evS (.mk 7 n [.mk k0 n0 l0 p0, .mk k1 n1 l1 p1] p) ρ m = (CE ++ evEs ρ l0) ++ evSs l1 (none :: ρ) m) := Lib.hid (by
      rw [HEV.out]
      show _ ++ (evSs l1 (none :: ρ) m ++ []) = _
      rw [List.append_nil])
    have c0 := hg.on1
    obtain ⟨O, hO⟩ : ∃ O, onR Γ (F.or (wrongE (CE ++ evEs ρ l0))) = O := ⟨_, rfl⟩
    rw [hO] at c0
    have HO := Lib.hid hO
    have cb := hg.block1 (show BlockR Γ l1 from HY.out (.mk k1 n1 l1 p1) (by simp)) hv1 hsz (by
      have h1 : wtL [Nd.mk k1 n1 l1 p1] = wtL l1 + n1.length + 1 := wtN_mk k1 n1 l1 p1
      have h2 := HLN.out.2.2.1
      have h3 := HES.out
      obtain ⟨b1, b2, b3, b4, b5⟩ := HBD.out
      refine ⟨?_, ?_, ?_, ?_, ?_⟩ <;> omega)
    clear hg hbx hsz hO hat hat2 hv1
    cases O
    · have HEND : Hid (RGo Γ w (envS ρ (.mk 7 n [.mk k0 n0 l0 p0, .mk k1 n1 l1 p1] p)) m F fr ca (evS (.mk 7 n [.mk k0 n0 l0 p0, .mk k1 n1 l1 p1] p) ρ m) wc) := Lib.hid (by
        rw [HEV2.out, HEN.out]
        exact RGo.skip HG.out.1 HO.out _)
      clear cb z0 z1 z2 z3
      go_wp2_with fail
      refine c0.mono ?_
      clear c0
      rintro e w1 ⟨rfl, rfl⟩
      go_wp2_with fail
      go_end0
      exact ⟨rfl, HEND.out⟩
    · go_wp2_with fail
      refine c0.mono ?_
      clear c0
      rintro e w1 ⟨rfl, rfl⟩
      go_wp2_with fail
      refine cb.mono ?_
      clear cb z0 z1 z2 z3 x0 x1 x2 x3 xf
      rintro e w2 ⟨rfl, -, hg2⟩
      have HEND : Hid (RGo Γ w (envS ρ (.mk 7 n [.mk k0 n0 l0 p0, .mk k1 n1 l1 p1] p)) m F fr ca (evS (.mk 7 n [.mk k0 n0 l0 p0, .mk k1 n1 l1 p1] p) ρ m) w2) := Lib.hid (by
        rw [HEV2.out, HEN.out]
        exact hg2)
      clear hg2
      go_wp2_with fail
      go_end0
      exact ⟨rfl, HEND.out⟩
end Go.Proofs.YtpbkeamjdolpgaaGreatDoor
namespace Go.Proofs.YtpbkeamjdolpgaaGreatDoor
open Go.RowKit Go.Lib

theorem RGo.from_ {Γ : RCtx} {w W w1 : World} {ρ : Env} {m : Nat} {F : FltR} {fr ca : List (List UInt8)} {e1 : List Ev} (ho : OwR Γ w W) (h : RGo Γ W ρ m F fr ca e1 w1) : RGo Γ w ρ m F fr ca e1 w1 := ⟨ho.trans h.1, h.2⟩
set_option maxHeartbeats 4000000 in
set_option maxRecDepth 100000 in
theorem rstmt2 (Γ : RCtx) (n : List UInt8) (kids : List Nd) (p : Int) (h0 : BodyR Γ (.mk 2 n kids p)) : StmtR Γ (.mk 2 n kids p) := by
  intro w ρ m F fr ca v hv h hB hall hbd
  obtain ⟨y, cv, rfl, hrow⟩ := hv
  obtain ⟨K, hK⟩ : ∃ K, kids.length = K := ⟨_, rfl⟩
  obtain ⟨c, hc⟩ : ∃ c, cv.val = c := ⟨_, rfl⟩
  have hA : Below w.heap.size w (w.alloc (.cells #[.int .i64 2, .string ⟨n.toArray⟩, .slice y kids.length cv.val, .int .i64 p] 53)) := (Below.refl _ _).alloc (Nat.le_refl _) _
  have HB := Lib.hid (Box4.new w (.int .i64 2) (.string ⟨n.toArray⟩) (.slice y kids.length cv.val) (.int .i64 p))
  have HOW := Lib.hid (OwR.of_below (Γ := Γ) hA)
  have cb := h0 (w.alloc (.cells #[.int .i64 2, .string ⟨n.toArray⟩, .slice y kids.length cv.val, .int .i64 p] 53)) ρ m F fr ca (.agg #[.int .i64 2, .string ⟨n.toArray⟩, .slice y kids.length cv.val, .int .i64 p]) ⟨y, cv, rfl, hrow.below hA⟩ (h.below hA) (Nat.le_trans hB hA.size) hall hbd
  rw [hc, hK] at HB HOW cb ⊢
  clear hA hrow hall hbd h hB hK hc cv h0
  go_enter Tryz.func185, Tryz.ntmps185
  obtain ⟨x0, x1, x2, x3, xf⟩ := HB.out.facts
  go_wp2_with fail
  refine cb.mono ?_
  clear cb x0 x1 x2 x3 xf
  rintro e w2 ⟨rfl, hg⟩
  have HEND := Lib.hid (hg.from_ HOW.out)
  clear hg
  go_wp2_with fail
  go_end0
  exact ⟨rfl, HEND.out⟩
set_option maxHeartbeats 4000000 in
set_option maxRecDepth 100000 in
theorem rstmt3 (Γ : RCtx) (n : List UInt8) (kids : List Nd) (p : Int) (h0 : BodyR Γ (.mk 3 n kids p)) : StmtR Γ (.mk 3 n kids p) := by
  intro w ρ m F fr ca v hv h hB hall hbd
  obtain ⟨y, cv, rfl, hrow⟩ := hv
  obtain ⟨K, hK⟩ : ∃ K, kids.length = K := ⟨_, rfl⟩
  obtain ⟨c, hc⟩ : ∃ c, cv.val = c := ⟨_, rfl⟩
  have hA : Below w.heap.size w (w.alloc (.cells #[.int .i64 3, .string ⟨n.toArray⟩, .slice y kids.length cv.val, .int .i64 p] 53)) := (Below.refl _ _).alloc (Nat.le_refl _) _
  have HB := Lib.hid (Box4.new w (.int .i64 3) (.string ⟨n.toArray⟩) (.slice y kids.length cv.val) (.int .i64 p))
  have HOW := Lib.hid (OwR.of_below (Γ := Γ) hA)
  have cb := h0 (w.alloc (.cells #[.int .i64 3, .string ⟨n.toArray⟩, .slice y kids.length cv.val, .int .i64 p] 53)) ρ m F fr ca (.agg #[.int .i64 3, .string ⟨n.toArray⟩, .slice y kids.length cv.val, .int .i64 p]) ⟨y, cv, rfl, hrow.below hA⟩ (h.below hA) (Nat.le_trans hB hA.size) hall hbd
  rw [hc, hK] at HB HOW cb ⊢
  clear hA hrow hall hbd h hB hK hc cv h0
  go_enter Tryz.func185, Tryz.ntmps185
  obtain ⟨x0, x1, x2, x3, xf⟩ := HB.out.facts
  go_wp2_with fail
  refine cb.mono ?_
  clear cb x0 x1 x2 x3 xf
  rintro e w2 ⟨rfl, hg⟩
  have HEND := Lib.hid (hg.from_ HOW.out)
  clear hg
  go_wp2_with fail
  go_end0
  exact ⟨rfl, HEND.out⟩
set_option maxHeartbeats 4000000 in
set_option maxRecDepth 100000 in
theorem rstmt7 (Γ : RCtx) (n : List UInt8) (kids : List Nd) (p : Int) (h0 : CallR Γ (.mk 7 n kids p)) : StmtR Γ (.mk 7 n kids p) := by
  intro w ρ m F fr ca v hv h hB hall hbd
  obtain ⟨y, cv, rfl, hrow⟩ := hv
  obtain ⟨K, hK⟩ : ∃ K, kids.length = K := ⟨_, rfl⟩
  obtain ⟨c, hc⟩ : ∃ c, cv.val = c := ⟨_, rfl⟩
  have hA : Below w.heap.size w (w.alloc (.cells #[.int .i64 7, .string ⟨n.toArray⟩, .slice y kids.length cv.val, .int .i64 p] 53)) := (Below.refl _ _).alloc (Nat.le_refl _) _
  have HB := Lib.hid (Box4.new w (.int .i64 7) (.string ⟨n.toArray⟩) (.slice y kids.length cv.val) (.int .i64 p))
  have HOW := Lib.hid (OwR.of_below (Γ := Γ) hA)
  have cb := h0 (w.alloc (.cells #[.int .i64 7, .string ⟨n.toArray⟩, .slice y kids.length cv.val, .int .i64 p] 53)) ρ m F fr ca (.agg #[.int .i64 7, .string ⟨n.toArray⟩, .slice y kids.length cv.val, .int .i64 p]) ⟨y, cv, rfl, hrow.below hA⟩ (h.below hA) (Nat.le_trans hB hA.size) hall hbd
  rw [hc, hK] at HB HOW cb ⊢
  clear hA hrow hall hbd h hB hK hc cv h0
  go_enter Tryz.func185, Tryz.ntmps185
  obtain ⟨x0, x1, x2, x3, xf⟩ := HB.out.facts
  go_wp2_with fail
  refine cb.mono ?_
  clear cb x0 x1 x2 x3 xf
  rintro e w2 ⟨rfl, hg⟩
  have HEND := Lib.hid (hg.from_ HOW.out)
  clear hg
  go_wp2_with fail
  go_end0
  exact ⟨rfl, HEND.out⟩
theorem rst28_any (Γ : RCtx) : ∀ (N : Nat) (x : Nd), wtN x < N → wtN x < 2 ^ 40 → stR x = true → StmtR Γ x
  | N + 1, .mk k n kids p, hN, hs, hx => by
    rw [wtN_mk] at hN hs
    have hE : ∀ y ∈ kids, exR y = true → ExprR Γ y := fun y hy he => rex28_any Γ (wtN y + 1) y (Nat.lt_succ_self _) (by have := wtL_mem hy; omega) (.inl he)
    have hA : ∀ y ∈ kids, okW 8 y = true → ∀ z ∈ y.kids, ExprR Γ z := fun y hy hy8 z hz => by
      have h1 := wtL_mem hy
      obtain ⟨k', n', l', p'⟩ := y
      rw [wtN_mk] at h1
      have h2 := wtL_mem (show z ∈ l' from hz)
      exact rex28_any Γ (wtN z + 1) z (Nat.lt_succ_self _) (by omega) (.inl (exsR_each (okW_arg hy8) z hz))
    have hB : ∀ y ∈ kids, okW 0 y = true → BlockR Γ y.kids := fun y hy hb => rblock_step Γ y.kids fun z hz => by
      have h1 := wtL_mem hy
      obtain ⟨k', n', l', p'⟩ := y
      rw [wtN_mk] at h1
      have h2 := wtL_mem (show z ∈ l' from hz)
      exact rst28_any Γ N z (by omega) (by omega) (stsR_each (okW_blk hb) z hz)
    rw [stR] at hx
    by_cases k6 : k = 6
    · subst k6
      rw [if_pos rfl, Bool.and_eq_true] at hx
      have h2 := hx.2
      split at h2
      · obtain ⟨x, y, rfl, hx1, hy⟩ := shR2 h2
        exact rstmt6 Γ n x [y] p (hE x (by simp) (okW_ex hx1)) (fun b hb => by
          obtain rfl := List.mem_singleton.1 hb
          exact hB b (by simp) hy)
      · obtain ⟨x, y, z, rfl, hx1, hy, hz⟩ := shR3 h2
        refine rstmt6 Γ n x [y, z] p (hE x (by simp) (okW_ex hx1)) (fun b hb => ?_)
        rcases List.mem_cons.1 hb with rfl | hb
        · exact hB b (by simp) hy
        · obtain rfl := List.mem_singleton.1 hb
          exact hB b (by simp) hz
    rw [if_neg k6, Bool.and_eq_true] at hx
    have hx := hx.2
    by_cases k1 : k = 1
    · subst k1
      rw [if_pos rfl] at hx
      obtain ⟨x, rfl, hx1⟩ := shR1 hx
      exact rstmt1 Γ n x p (hE x (by simp) (okW_ex hx1))
    rw [if_neg k1] at hx
    by_cases k2 : k = 2
    · subst k2
      rw [if_pos rfl] at hx
      obtain ⟨⟨k0, n0, l0, p0⟩, ⟨k1, n1, l1, p1⟩, rfl, hx1, hy⟩ := shR2 hx
      exact rstmt2 Γ n _ p (rbody2 Γ n k0 n0 l0 p0 k1 n1 l1 p1 p (hB (.mk k1 n1 l1 p1) (by simp) hy))
    rw [if_neg k2] at hx
    by_cases k3 : k = 3
    · subst k3
      rw [if_pos rfl] at hx
      obtain ⟨⟨k0, n0, l0, p0⟩, ⟨k1, n1, l1, p1⟩, rfl, hx1, hy⟩ := shR2 hx
      exact rstmt3 Γ n _ p (rbody3 Γ n k0 n0 l0 p0 k1 n1 l1 p1 p (hE (.mk k1 n1 l1 p1) (by simp) (okW_ex hy)))
    rw [if_neg k3] at hx
    by_cases k5 : k = 5
    · subst k5
      rw [if_pos rfl] at hx
      obtain ⟨x, y, rfl, hx1, hy⟩ := shR2 hx
      exact rstmt5 Γ n x y p (hE x (by simp) (okW_ex hx1)) (hB y (by simp) hy)
    rw [if_neg k5] at hx
    by_cases k7 : k = 7
    · subst k7
      rw [if_pos rfl] at hx
      split at hx
      · obtain ⟨⟨k0, n0, l0, p0⟩, rfl, hx1⟩ := shR1 hx
        exact rstmt7 Γ n _ p (rcall_any Γ n k0 n0 l0 p0 [] p (by simp) (hA (.mk k0 n0 l0 p0) (by simp) hx1) (fun b hb => by cases hb))
      · obtain ⟨⟨k0, n0, l0, p0⟩, y, rfl, hx1, hy⟩ := shR2 hx
        exact rstmt7 Γ n _ p (rcall_any Γ n k0 n0 l0 p0 [y] p (by simp) (hA (.mk k0 n0 l0 p0) (by simp) hx1) (fun b hb => by
          obtain rfl := List.mem_singleton.1 hb
          exact hB b (by simp) hy))
    rw [if_neg k7] at hx
    cases hx
theorem rblk28_any (Γ : RCtx) (l : List Nd) (hs : wtL l < 2 ^ 40) (hx : stsR l = true) : BlockR Γ l :=
  rblock_step Γ l fun z hz => rst28_any Γ (wtN z + 1) z (Nat.lt_succ_self _) (by have := wtL_mem hz; omega) (stsR_each hx z hz)
end Go.Proofs.YtpbkeamjdolpgaaGreatDoor
namespace Go.Proofs.YtpbkeamjdolpgaaGreatDoor
open Go.RowKit Go.Lib

def RTokEnd (R : Except Flt (List Tk)) (w : World) (e : Ending) (w' : World) : Prop :=
  Below w.heap.size w w' ∧ match R with
  | .ok ts => ∃ v, e = .returned (.tuple #[v, .pointer none]) ∧ w'.ownsRow w.heap.size 46 3 v ts.length (tkFlat ts)
  | .error f => ∃ b, w.heap.size ≤ b ∧ e = .returned (.tuple #[.slice none 0 0, .pointer (some ⟨b, 0, none⟩)]) ∧
      w'.heap[b]? = some (.cells #[.int .i64 f.1, .int .i64 f.2.1, .string ⟨f.2.2.toArray⟩] 61 (0, 0))

set_option maxHeartbeats 2000000 in
set_option maxRecDepth 100000 in
theorem rtokens_long (s : ByteArray) (w : World) (h : 65536 < s.size) :
    Calls Tryz.prog 44 #[.string s] w (RTokEnd (tokensL s.data.toList) w) := by
  have hr : tokensL s.data.toList = .error (3, 0, []) := by unfold tokensL; rw [if_pos (by rw [← Lib.size_eq]; exact h)]
  rw [hr]
  have Q : decide ((s.size : Int) > 65536) = true := by simp; omega
  clear hr h
  go_enter Tryz.func44, Tryz.ntmps44
  go_wp2
  go_ret2
  refine ⟨(Below.refl _ _).alloc (Nat.le_refl _) _, w.heap.size, Nat.le_refl _, rfl, ?_⟩
  exact heap_alloc_new w _

set_option maxHeartbeats 4000000 in
set_option maxRecDepth 100000 in
theorem rtokens_any (s : ByteArray) (w : World) (hs : s.size ≤ 65536) (hG : Gl w) :
    Calls Tryz.prog 44 #[.string s] w (RTokEnd (tokensL s.data.toList) w) := by
  have hr : tokensL s.data.toList = toksL s.size 0 (skipL s.data.toList) (s.data.toList.drop (skipL s.data.toList)) := by unfold tokensL; rw [if_neg (by rw [← Lib.size_eq]; omega), Lib.size_eq]
  have hr2 : contL [] (toksL s.size 0 (skipL s.data.toList) (s.data.toList.drop (skipL s.data.toList))) = tokensL s.data.toList := by
    rw [hr]
    cases toksL s.size 0 (skipL s.data.toList) (s.data.toList.drop (skipL s.data.toList)) <;> simp [contL]
  obtain ⟨R, hR⟩ : ∃ R, tokensL s.data.toList = R := ⟨_, rfl⟩
  rw [hR] at hr2 ⊢
  have HR := Lib.hid hr2
  have hsk := skipB_le false s.data.toList
  rw [← Lib.size_eq] at hsk
  have hsk2 : skipL s.data.toList ≤ s.size := hsk
  have c0 : Calls Tryz.prog 79 #[.string s, .int .i64 0] w fun e w' => e = .returned (.int .i64 (skipL s.data.toList)) ∧ w = w' := by
    have h := rskip_any s 0 w (by omega) (Nat.zero_le _)
    rw [List.drop_zero, Nat.zero_add] at h
    exact h
  obtain ⟨P0, hP0⟩ : ∃ P0, skipL s.data.toList = P0 := ⟨_, rfl⟩
  rw [hP0] at HR hsk2 c0
  have Q : decide ((s.size : Int) > 65536) = false := by simp; omega
  clear hr hr2 hR hsk hP0
  obtain ⟨i0, hi, hz0, hz1, hz2⟩ := info_parts Tryz.infoTok
  go_enter Tryz.func44, Tryz.ntmps44
  go_wp2_with (first | (go_at_call 79; (with_reducible refine c0.mono ?_); rintro e w1 ⟨rfl, rfl⟩))
  go_loopg [4, 5] s.size (fun gf v i wx => ∃ (p : Nat) (acc : List Tk), i = .int .i64 p ∧ p ≤ s.size ∧ Below w.heap.size w wx ∧ wx.ownsRow w.heap.size 46 3 v acc.length (tkFlat acc) ∧ acc.length ≤ 4096 ∧ Hid (contL acc (toksL gf acc.length p (s.data.toList.drop p)) = R) ∧ s.size ≤ p + gf)
  case atStart => exact ⟨P0, [], rfl, hsk2, Below.refl _ _, World.ownsRow_nil _ _ _ _, by simp, HR, by omega⟩
  case round =>
    obtain ⟨p, acc, rfl, hp, hb, hown, hlen, hS, hfu⟩ := hrel
    by_cases hlt : p < s.size
    · obtain ⟨g', rfl⟩ : ∃ g', gk = g' + 1 := ⟨gk - 1, by omega⟩
      have hxl : (s.extract p s.size).data.toList = s.data.toList.drop p := Lib.extract_to_end _ _
      have hxs : (s.extract p s.size).size = s.size - p := by rw [Lib.size_eq (s.extract _ _), hxl, List.length_drop, ← Lib.size_eq]
      have cW := rword_any s p wr (by omega) hp (hG.below hb)
      have cD := fun w1 (hb1 : Below wr.heap.size wr w1) => Tryz.utf8_DecodeRuneInString (s.extract p s.size) w1 ((hG.below hb).below hb1).2.2.2
      rw [decGo s p hlt] at cD
      have cS := fun q (hq : q ≤ s.size) W => rskip_any s q W (by omega) hq
      have hext := extract_mk s p
      obtain ⟨l, hl⟩ : ∃ l, s.data.toList.drop p = l := ⟨_, rfl⟩
      have hln : l.length = s.size - p := by rw [← hl, List.length_drop, ← Lib.size_eq]
      have hlne : l ≠ [] := by intro h; rw [h] at hln; simp at hln; omega
      have hdrop : ∀ K, s.data.toList.drop (p + K) = l.drop K := fun K => by rw [← hl, List.drop_drop]
      rw [hl] at cW cD hS
      simp only [hl] at hext
      have hS2 := hS.out
      rw [toksL_step _ _ _ _ hlne] at hS2
      have hwl := wordL_le l
      have hdl := dec_le l hlne
      have hd1 := dec_ge1 l
      have hsk := skipB_le false (l.drop (wordL l).2)
      rw [List.length_drop] at hsk
      obtain ⟨k, hk⟩ : ∃ k, (wordL l).1 = k := ⟨_, rfl⟩
      obtain ⟨n, hn⟩ : ∃ n, (wordL l).2 = n := ⟨_, rfl⟩
      obtain ⟨r, hr⟩ : ∃ r, (dec l).1 = r := ⟨_, rfl⟩
      obtain ⟨m, hm⟩ : ∃ m, (dec l).2 = m := ⟨_, rfl⟩
      have hrw := rword_eq l
      rw [hrw.1] at cW
      have hrk := hrw.2
      clear hrw
      rw [hn] at cW hrk
      rw [hk, hn] at hS2
      obtain ⟨k', hk'⟩ : ∃ k', (rwordL l).1 = k' := ⟨_, rfl⟩
      rw [hk'] at cW
      have hkk : 0 < n → k' = k := fun h => by rw [← hk', hrk h, hk]
      clear hk' hrk
      obtain ⟨E, hE⟩ : ∃ E, p + n = E := ⟨_, rfl⟩
      rw [hE] at cW
      rw [hr, hm] at cD
      rw [hm] at hS2 hdl hd1
      rw [hn] at hwl hsk
      clear hS hk hn hr hm hxl hxs hlne hl hG
      by_cases h0 : n = 0
      · have Q0 : ((E : Int) == (p : Int)) = true := by simp; omega
        rw [if_pos h0] at hS2
        simp only [contL] at hS2
        have HS := Lib.hid hS2
        have HX := Lib.hid (hext m)
        clear hS2 h0 cS hext hdrop hsk hwl hkk hE
        go_wp2_with (first | (go_at_call 80; (with_reducible refine cW.mono ?_); rintro e w1 ⟨rfl, hb1⟩) | (go_at_call 65; (with_reducible refine (cD _ hb1).mono ?_); rintro e w2 ⟨rfl, hb2⟩))
        clear cD cW Q0 Q
        have hpm : p + m ≤ s.size := by omega
        have X1 : IntKind.i64.wrap ((p : Int) + (m : Int)) = (p : Int) + (m : Int) := IntWalk.i64_in _ (by omega)
        have X2 : 0 ≤ (p : Int) + (m : Int) := by omega
        have X3 : ((p : Int) + (m : Int)).toNat = p + m := by omega
        go_region
        go_wp2
        go_ret2
        refine ⟨?_, ?_⟩
        · exact ((tr (tr hb hb1) hb2).alloc (tr (tr hb hb1) hb2).size _).drew
        · rw [← HS.out]
          refine ⟨w2.heap.size, (tr (tr hb hb1) hb2).size, rfl, ?_⟩
          rw [← HX.out]
          exact heap_alloc_new w2 _
      · have Q0 : ((E : Int) == (p : Int)) = false := by simp; omega
        rw [if_neg h0] at hS2
        obtain rfl := hkk (by omega)
        have hext2 := hext n
        rw [hE] at hext2
        have hpE : p ≤ E := by omega
        have hEs : E ≤ s.size := by omega
        by_cases h1 : acc.length = 4096
        · have Q1 : ((acc.length : Int) == 4096) = true := by simp; omega
          rw [if_pos h1] at hS2
          simp only [contL] at hS2
          have HS := Lib.hid hS2
          have HX := Lib.hid hext2
          obtain ⟨va, vc, rfl⟩ := own_shape hown
          clear hS2 h0 cS hext hext2 hdrop hsk hwl h1 cD hE hkk
          go_wp2_with (first | (go_at_call 80; (with_reducible refine cW.mono ?_); rintro e w1 ⟨rfl, hb1⟩))
          go_region
          go_wp2
          go_ret2
          refine ⟨?_, ?_⟩
          · exact ((tr hb hb1).alloc (tr hb hb1).size _).drew
          · rw [← HS.out]
            refine ⟨w1.heap.size, (tr hb hb1).size, rfl, ?_⟩
            rw [← HX.out]
            exact heap_alloc_new w1 _
        · have Q1 : ((acc.length : Int) == 4096) = false := by simp; omega
          rw [if_neg h1, contL_cons] at hS2
          have hn0 : 0 < n := by omega
          have HS := Lib.hid hS2
          have HX := Lib.hid hext2
          have HD := Lib.hid hdrop
          obtain ⟨q, hq⟩ : ∃ q, skipL (l.drop n) = q := ⟨_, rfl⟩
          have hsk2 : q ≤ l.length - n := by rw [← hq]; exact hsk
          obtain ⟨G, hG⟩ : ∃ G, E + q = G := ⟨_, rfl⟩
          have cSn : ∀ W, Calls Tryz.prog 79 #[.string s, .int .i64 E] W fun e w' => e = .returned (.int .i64 G) ∧ W = w' := fun W => by
            have h := cS E hEs W
            rw [← hE, hdrop, hq, hE, hG] at h
            exact h
          have HQ := Lib.hid hq
          have HE := Lib.hid hE
          have HG := Lib.hid hG
          have hGs : G ≤ s.size := by omega
          have hfuel : s.size ≤ G + g' := by omega
          have hshape := own_shape hown
          obtain ⟨va, vc, rfl⟩ := hshape
          clear hS2 h0 cS hext hext2 hdrop hsk hq cD hE hG hkk
          have hlen2 : acc.length < 4096 := by omega
          clear h1
          go_wp2_with (first | (go_at_call 80; (with_reducible refine cW.mono ?_); rintro e w1 ⟨rfl, hb1⟩; have hown1 := own_below hown hb1) | (at_builtin; refine wpList_append_own _ rfl (.tmp 56) (.tmp 64) 41 rfl (w.heap.size) 46 i0 (.agg #[.int .i64 0, .string ⟨#[]⟩, .int .i64 0]) 3 32 Tryz.underlying41 hi hz0 hz1 hz2 rfl (by decide) _ _ _ rfl (hown1.alloc _) ⟨w1.heap.size, 0, none⟩ 1 1 [.int .i64 (k' : Int), .string (s.extract p E), .int .i64 (p : Int)] rfl rfl (cell_three_new _ _ _ _ _) (fun x hx => by simp at hx; rcases hx with rfl | rfl | rfl <;> rfl) (by unfold maxLen; omega) (by omega) (by have := hb.size; have := hb1.size; simp; omega) ?_; intro v' w3 hown' hgrow3 hnil3) | (go_at_call 79; (with_reducible refine (cSn _).mono ?_); rintro e w4 ⟨rfl, rfl⟩))
          have hbw3 : Below w.heap.size w w3 := Below.grown ((tr hb hb1).alloc (tr hb hb1).size _) hgrow3 (by have := (tr hb hb1).size; simp; omega) (fun j hj => (hown1.lt _ hj).1)
          go_roundg g'
          case measure => omega
          case rel =>
            refine ⟨G, acc ++ [(k', l.take n, p)], rfl, hGs, hbw3, ?_, by simp; omega, ?_, hfuel⟩
            · rw [tkFlat_app, tkFlat_one]
              simp only [tkCells]
              rw [← HX.out]
              simpa using hown'
            · have h := HS.out
              rw [HQ.out] at h
              rw [← HG.out, ← HE.out, Nat.add_assoc p n q, HD.out, List.length_append, List.length_singleton]
              rw [Nat.add_assoc p n q] at h
              exact h
    · have hnil : s.data.toList.drop p = [] := List.drop_eq_nil_of_le (by rw [← Lib.size_eq]; omega)
      have hS2 := hS.out
      have htk : toksL gk acc.length p [] = .ok [] := by cases gk <;> simp [toksL]
      rw [hnil, htk] at hS2
      simp only [contL, List.append_nil] at hS2
      have HS := Lib.hid hS2
      clear hS2 hS hnil htk
      go_wp2
      go_ret2
      refine ⟨hb, ?_⟩
      rw [← HS.out]
      exact ⟨_, rfl, hown⟩
end Go.Proofs.YtpbkeamjdolpgaaGreatDoor
namespace Go.Proofs.YtpbkeamjdolpgaaGreatDoor
open Go.RowKit Go.Lib Go.Shelf Go.Sort

set_option maxHeartbeats 4000000 in
set_option maxRecDepth 100000 in
theorem rresv_any (s : List UInt8) (w : World) : Calls Tryz.prog 140 #[.string ⟨s.toArray⟩] w fun e w' => e = .returned (.bool (resv s)) ∧ w = w' := by
  by_cases h1 : s = wModule
  · subst h1
    unfold wModule
    go_enter Tryz.func140, Tryz.ntmps140
    go_wp2_with fail
    go_ret
    exact ⟨rfl, rfl⟩
  have Q1 : (s == [109, 111, 100, 117, 108, 101]) = false := str_ne h1
  by_cases h2 : s = wFunction
  · subst h2
    unfold wFunction
    clear Q1
    go_enter Tryz.func140, Tryz.ntmps140
    go_wp2_with fail
    go_ret
    exact ⟨rfl, rfl⟩
  have Q2 : (s == [102, 117, 110, 99, 116, 105, 111, 110]) = false := str_ne h2
  by_cases h3 : s = wFor
  · subst h3
    unfold wFor
    clear Q1 Q2
    go_enter Tryz.func140, Tryz.ntmps140
    go_wp2_with fail
    go_ret
    exact ⟨rfl, rfl⟩
  have Q3 : (s == [102, 111, 114]) = false := str_ne h3
  by_cases h4 : s = wIf
  · subst h4
    unfold wIf
    clear Q1 Q2 Q3
    go_enter Tryz.func140, Tryz.ntmps140
    go_wp2_with fail
    go_ret
    exact ⟨rfl, rfl⟩
  have Q4 : (s == [105, 102]) = false := str_ne h4
  by_cases h5 : s = wElse
  · subst h5
    unfold wElse
    clear Q1 Q2 Q3 Q4
    go_enter Tryz.func140, Tryz.ntmps140
    go_wp2_with fail
    go_ret
    exact ⟨rfl, rfl⟩
  have Q5 : (s == [101, 108, 115, 101]) = false := str_ne h5
  have hr : resv s = false := by unfold resv; simp [h1, h2, h3, h4, h5]
  rw [hr]
  clear h1 h2 h3 h4 h5 hr
  go_enter Tryz.func140, Tryz.ntmps140
  go_wp2_with fail
  go_ret
  exact ⟨rfl, rfl⟩

set_option maxHeartbeats 4000000 in
set_option maxRecDepth 100000 in
theorem rplain_any (s : List UInt8) (w : World) (hs : s.length ≤ 2 ^ 47) (hG : Gl w) : Calls Tryz.prog 153 #[.string ⟨s.toArray⟩] w (Yes (plainR s) w) := by
  have c1 := rName_any ⟨s.toArray⟩ w (by unfold maxLen; show s.toArray.size ≤ _; simp; omega) hG
  have c2 := fun w1 => rresv_any s w1
  rw [plain_ok]
  have e : (⟨s.toArray⟩ : ByteArray).data.toList = s := rfl
  rw [e] at c1
  obtain ⟨B, hB⟩ : ∃ B, nameOk s = B := ⟨_, rfl⟩
  obtain ⟨C, hC⟩ : ∃ C, resv s = C := ⟨_, rfl⟩
  rw [hB] at c1 ⊢
  rw [hC] at c2 ⊢
  clear hB hC hs hG e
  cases B
  all_goals (
    go_enter Tryz.func153, Tryz.ntmps153
    go_wp2_with fail
    refine c1.mono ?_
    clear c1
    rintro e w1 ⟨rfl, hb1⟩
    go_wp2_with fail
    refine (c2 _).mono ?_
    clear c2
    rintro e w2 ⟨rfl, rfl⟩
    go_wp2_with fail
    go_ret
    exact ⟨rfl, hb1⟩)

theorem rtokens_all (s : ByteArray) (w : World) (hG : Gl w) : Calls Tryz.prog 44 #[.string s] w (RTokEnd (tokensL s.data.toList) w) := by
  by_cases h : s.size ≤ 65536
  · exact rtokens_any s w h hG
  · exact rtokens_long s w (by omega)

def numX (T : Except Flt (List Tk)) (s : List UInt8) : Bool := match T with | .ok [t] => decide (t.1 = 1) && decide (t.2.1 = s) | _ => false
set_option maxHeartbeats 4000000 in
set_option maxRecDepth 100000 in
theorem rnumber_any27 (s : List UInt8) (w : World) (hG : Gl w) : Calls Tryz.prog 192 #[.string ⟨s.toArray⟩] w (Yes (numR s) w) := by
  have c1 := rtokens_all ⟨s.toArray⟩ w hG
  have e : (⟨s.toArray⟩ : ByteArray).data.toList = s := rfl
  rw [e] at c1
  obtain ⟨R, hR⟩ : ∃ R, numR s = R := ⟨_, rfl⟩
  obtain ⟨T, hT⟩ : ∃ T, tokensL s = T := ⟨_, rfl⟩
  have hr : R = numX T s := by rw [← hR, ← hT]; rfl
  rw [hR]
  rw [hT] at c1
  clear hR hT hG e
  cases T with
  | error f =>
    have HR : Hid (R = false) := hr
    clear hr
    go_enter Tryz.func192, Tryz.ntmps192
    go_wp2_with fail
    refine c1.mono ?_
    clear c1
    rintro e w1 ⟨hb1, b, hb, rfl, _⟩
    go_wp2_with fail
    go_ret
    exact ⟨by rw [HR.out]; rfl, hb1⟩
  | ok ts =>
    by_cases hl : ts.length = 1
    · obtain ⟨t, rfl⟩ := List.length_eq_one_iff.1 hl
      obtain ⟨k, u, p⟩ := t
      have HR : Hid (R = (decide (k = 1) && decide (u = s))) := hr
      clear hr hl
      go_enter Tryz.func192, Tryz.ntmps192
      go_wp2_with fail
      refine c1.mono ?_
      clear c1
      rintro e w1 ⟨hb1, v, rfl, hown⟩
      obtain ⟨x, c, rfl⟩ := own_shape hown
      obtain ⟨g, rfl, x0, x1, _⟩ := tokRow_own hown 0 (k, u, p) rfl
      have y0 : w1.cell? ⟨g, 0, none⟩ = some (.int .i64 k) := by simpa using x0
      have y1 : w1.cell? ⟨g, 1, none⟩ = some (.string ⟨u.toArray⟩) := by simpa using x1
      clear hown x0 x1
      by_cases h1 : k = 1
      · subst h1
        by_cases h2 : u = s
        · subst h2
          go_wp2_with fail
          go_ret
          exact ⟨by rw [HR.out]; simp, hb1⟩
        · have Q := str_ne h2
          have HR2 : Hid (R = false) := by
            show R = false
            rw [HR.out]
            simp [h2]
          clear HR h2
          go_wp2_with fail
          go_ret
          exact ⟨by rw [HR2.out]; rfl, hb1⟩
      · have Q : ((k : Int) == 1) = false := beq_eq_false_iff_ne.2 (by omega)
        have HR2 : Hid (R = false) := by
          show R = false
          rw [HR.out]
          simp [h1]
        clear HR h1
        go_wp2_with fail
        go_ret
        exact ⟨by rw [HR2.out]; rfl, hb1⟩
    · have HR : Hid (R = false) := by
        show R = false
        rw [hr]
        match ts, hl with
        | [], _ => rfl
        | _ :: _ :: _, _ => rfl
      have Q : ((ts.length : Int) == 1) = false := beq_eq_false_iff_ne.2 (by omega)
      clear hr hl
      go_enter Tryz.func192, Tryz.ntmps192
      go_wp2_with fail
      refine c1.mono ?_
      clear c1
      rintro e w1 ⟨hb1, v, rfl, hown⟩
      obtain ⟨x, c, rfl⟩ := own_shape hown
      obtain ⟨n, hn⟩ : ∃ n, ts.length = n := ⟨_, rfl⟩
      rw [hn] at Q ⊢
      clear hown hn
      go_wp2_with fail
      go_ret
      exact ⟨by rw [HR.out]; rfl, hb1⟩

def SgEnd (k : Nat) (w : World) (e : Ending) (w' : World) : Prop := e = .returned (.slice (some ⟨w.heap.size, 0, none⟩) (signsK k).length (signsK k).length) ∧ Below w.heap.size w w' ∧ StrRow w' w.heap.size 0 (signsK k)
set_option maxHeartbeats 4000000 in
set_option maxRecDepth 100000 in
theorem rsigns_any (k : Nat) (hk : k < 5) (w : World) : Calls Tryz.prog 220 #[.int .i64 k] w (SgEnd k w) := by
  have hal : ∀ (xs : Array Value) (t : TypeId), Below w.heap.size w (w.alloc (.cells xs t)) := fun xs t => (Below.refl _ _).alloc (Nat.le_refl _) _
  have hst : ∀ (l : List (List UInt8)) (t : TypeId), StrRow (w.alloc (.cells (l.map fun s => Value.string ⟨s.toArray⟩).toArray t)) w.heap.size 0 l := fun l t j u hj => by
    rw [Nat.zero_add]
    unfold World.cell?
    rw [show (⟨w.heap.size, j, none⟩ : Addr).block = w.heap.size from rfl, heap_alloc_new]
    simp [hj]
  unfold SgEnd
  match k, hk with
  | 0, _ =>
    go_enter Tryz.func220, Tryz.ntmps220
    go_wp2_with fail
    go_ret
    exact ⟨rfl, hal _ _, hst (signsK 0) _⟩
  | 1, _ =>
    go_enter Tryz.func220, Tryz.ntmps220
    go_wp2_with fail
    go_ret
    exact ⟨rfl, hal _ _, hst (signsK 1) _⟩
  | 2, _ =>
    go_enter Tryz.func220, Tryz.ntmps220
    go_wp2_with fail
    go_ret
    exact ⟨rfl, hal _ _, hst (signsK 2) _⟩
  | 3, _ =>
    go_enter Tryz.func220, Tryz.ntmps220
    go_wp2_with fail
    go_ret
    exact ⟨rfl, hal _ _, hst (signsK 3) _⟩
  | 4, _ =>
    go_enter Tryz.func220, Tryz.ntmps220
    go_wp2_with fail
    go_ret
    exact ⟨rfl, hal _ _, hst (signsK 4) _⟩

theorem signsK_len6 (k : Nat) (hk : k < 5) : (signsK k).length ≤ 6 := by
  match k, hk with
  | 0, _ => decide
  | 1, _ => decide
  | 2, _ => decide
  | 3, _ => decide
  | 4, _ => decide
set_option maxHeartbeats 4000000 in
set_option maxRecDepth 100000 in
theorem rlevel_any27 (s : List UInt8) (w : World) : Calls Tryz.prog 190 #[.string ⟨s.toArray⟩] w fun e w' => e = .returned (.int .i64 ((levelS s : Int) - 1)) ∧ Below w.heap.size w w' := by
  obtain ⟨L, hL⟩ : ∃ L, levelS s = L := ⟨_, rfl⟩
  rw [hL]
  have HL := Lib.hid hL
  clear hL
  go_enter Tryz.func190, Tryz.ntmps190
  go_wp2_with fail
  go_loopw [3] (fun v wx => ∃ i : Nat, v = .int .i64 i ∧ i ≤ 5 ∧ Below w.heap.size w wx ∧ Hid (∀ k, k < i → s ∉ signsK k)) (fun v _ => 5 - (RowKit.intOf v).toNat)
  case atStart => exact ⟨0, rfl, by omega, Below.refl _ _, fun k hk => by omega⟩
  case round =>
    obtain ⟨i, rfl, hi, hb, hf⟩ := hrel
    by_cases hlt : i < 5
    · have c1 := rsigns_any i hlt wr
      have hlen := signsK_len6 i hlt
      obtain ⟨l, hl⟩ : ∃ l, signsK i = l := ⟨_, rfl⟩
      unfold SgEnd at c1
      rw [hl] at c1 hlen
      have HLs := Lib.hid hl
      obtain ⟨n, hn⟩ : ∃ n, l.length = n := ⟨_, rfl⟩
      rw [hn] at c1 hlen
      have HN := Lib.hid hn
      have hb5 : (i : Int) < 5 := by omega
      have Qi : IntKind.i64.wrap ((i : Int) + 1) = (i : Int) + 1 := IntWalk.i64_in _ (by omega)
      clear hl hn
      go_wp2_with fail
      refine c1.mono ?_
      clear c1
      rintro e w2 ⟨rfl, hb2, hst⟩
      have HST := Lib.hid hst
      have HB2 := Lib.hid (tr hb hb2)
      clear hst hb2 hb
      generalize wr.heap.size = g at *
      go_wp2_with fail
      go_loopw [5] (fun v wx => ∃ j : Nat, v = .int .i64 j ∧ j ≤ n ∧ wx = w2 ∧ Hid (s ∉ l.take j)) (fun v _ => n - (RowKit.intOf v).toNat)
      case atStart => exact ⟨0, rfl, Nat.zero_le _, rfl, by simp [Hid]⟩
      case round =>
        obtain ⟨j, rfl, hj, rfl, hs⟩ := hrel
        by_cases hjn : j < n
        · obtain ⟨u, hu⟩ : ∃ u, l[j]? = some u := ⟨l[j]'(by have := HN.out; omega), List.getElem?_eq_getElem _⟩
          have k := HST.out j u hu
          rw [Nat.zero_add] at k
          have Qj : IntKind.i64.wrap ((j : Int) + 1) = (j : Int) + 1 := IntWalk.i64_in _ (by omega)
          have hjn' : (j : Int) < (n : Int) := by omega
          by_cases he : u = s
          · subst he
            have hm : Hid (L = i + 1) := by
              have h1 := levelS_at hlt hf.out (by rw [HLs.out]; exact List.mem_of_getElem? hu)
              exact HL.out.symm.trans h1
            clear hu hs
            go_wp2_with fail
            go_ret
            refine ⟨?_, HB2.out⟩
            rw [hm.out, show (((i + 1 : Nat) : Int) - 1) = (i : Int) by omega]
            rfl
          · have Q := str_ne he
            have hs2 : Hid (s ∉ l.take (j + 1)) := by
              show s ∉ _
              rw [List.take_add_one, hu]
              simp only [List.mem_append, not_or]
              exact ⟨hs.out, by simpa using fun h => he h.symm⟩
            clear hu hs he
            go_wp2_with fail
            go_roundw
            case rel => exact ⟨j + 1, by go_num, by omega, trivial, hs2⟩
            case measure => simp [RowKit.intOf]; omega
        · have hf2 : Hid (∀ k, k < i + 1 → s ∉ signsK k) := fun k hk => by
            by_cases e : k = i
            · subst e
              rw [HLs.out]
              have := hs.out
              rwa [List.take_of_length_le (by have := HN.out; omega)] at this
            · exact hf.out k (by omega)
          have hjn' : ¬ (j : Int) < (n : Int) := by omega
          clear hs hf
          go_wp2_with fail
          go_roundw
          case rel => exact ⟨i + 1, by go_num, by omega, HB2.out, hf2⟩
          case measure => simp [RowKit.intOf]; omega
    · have hf2 : Hid (L = 0) := by
        have h1 := levelS_no (s := s) (fun k hk => hf.out k (by omega))
        exact HL.out.symm.trans h1
      have hb5 : ¬ (i : Int) < 5 := by omega
      clear hf
      go_wp2_with fail
      go_ret
      exact ⟨by rw [hf2.out]; rfl, hb⟩
end Go.Proofs.YtpbkeamjdolpgaaGreatDoor
namespace Go.Proofs.YtpbkeamjdolpgaaGreatDoor
open Go.RowKit Go.Lib Go.Shelf Go.Sort

structure NdBox (w : World) (b : Nat) (k : Int) (n : List UInt8) (y : Option Addr) (m c : Nat) (p : Int) : Prop where
  c0 : w.cell? ⟨b, 0, none⟩ = some (.int .i64 k)
  c1 : w.cell? ⟨b, 1, none⟩ = some (.string ⟨n.toArray⟩)
  c2 : w.cell? ⟨b, 2, none⟩ = some (.slice y m c)
  c3 : w.cell? ⟨b, 3, none⟩ = some (.int .i64 p)
theorem NdBox.new (w : World) (k : Int) (n : List UInt8) (y : Option Addr) (m c : Nat) (p : Int) : NdBox (w.alloc (ndO k n y m c p)) w.heap.size k n y m c p := by
  have hf := (Box4.new w (.int .i64 k) (.string ⟨n.toArray⟩) (.slice y m c) (.int .i64 p)).facts
  exact ⟨hf.1, hf.2.1, hf.2.2.1, hf.2.2.2.1⟩
theorem NdBox.below {w w' : World} {b : Nat} {k : Int} {n : List UInt8} {y : Option Addr} {m c : Nat} {p : Int} (h : NdBox w b k n y m c p) (hb : Below w.heap.size w w') : NdBox w' b k n y m c p := by
  have hk := World.block_lt_of_cell? w _ h.c0
  exact ⟨(hb.cell (p := ⟨b, 0, none⟩) hk).trans h.c0, (hb.cell (p := ⟨b, 1, none⟩) hk).trans h.c1, (hb.cell (p := ⟨b, 2, none⟩) hk).trans h.c2, (hb.cell (p := ⟨b, 3, none⟩) hk).trans h.c3⟩
theorem NdAt.mono_below {w w' : World} {ok : Nat → Prop} {x : Nd} {b o : Nat} (h : NdAt w ok x b o) (hb : Below w.heap.size w w') : NdAt w' ok x b o := NdAt.mono (fun _ h _ => h) (fun k _ hk => hb.block k hk) x b o h
def argR (x : Nd) : Bool := decide (x.kind = 8) && partR x
set_option maxHeartbeats 4000000 in
set_option maxRecDepth 100000 in
theorem rall_any (ok : Nat → Prop) (l : List Nd) (n : Nat) (hl : l.length = n) (hn : n < 2 ^ 62) (y : Option Addr) (c : Nat) (w : World) (hrow : NdRow w ok l y) (h : ∀ x ∈ l, OneQ 154 [] ok exR w x) :
    Calls Tryz.prog 193 #[.slice y n c] w (Yes (exsR l) w) := by
  have HROW := Lib.hid hrow
  have HL := Lib.hid hl
  have HH := Lib.hid h
  obtain ⟨R, hR⟩ : ∃ R, exsR l = R := ⟨_, rfl⟩
  have HR : Hid (R = l.all exR) := by
    show R = _
    rw [← hR, exsR_all]
  rw [hR]
  clear h hl hrow hR
  go_enter Tryz.func193, Tryz.ntmps193
  go_wp2_with fail
  go_loopw [3] (fun v wx => ∃ i : Nat, v = .int .i64 i ∧ i ≤ n ∧ Below w.heap.size w wx ∧ Hid ((l.take i).all exR = true)) (fun v _ => n - (intOf v).toNat)
  case atStart => exact ⟨0, rfl, Nat.zero_le _, Below.refl _ _, by simp [Hid]⟩
  case round =>
    obtain ⟨i, rfl, hi, hb, hf⟩ := hrel
    by_cases hlt : i < n
    · obtain ⟨u, hu⟩ : ∃ u, l[i]? = some u := ⟨l[i]'(by have := HL.out; omega), List.getElem?_eq_getElem _⟩
      obtain ⟨B, o, rfl, hat⟩ := (HROW.out.below hb).at_ hu
      obtain ⟨k, nm, z, kids, cc, p, rfl, x0, x1, x2, x3, hk⟩ := hat.val
      have c1 := HH.out _ (List.mem_of_getElem? hu) (.agg #[.int .i64 k, .string ⟨nm.toArray⟩, .slice z kids.length cc, .int .i64 p]) wr hb ⟨z, cc, rfl, hk⟩
      have HN : Hid ((l.take (i + 1)).all exR = exR (.mk k nm kids p)) := by
        show _ = _
        rw [List.take_add_one, hu, List.all_append, hf.out]
        simp
      have HA : Hid (exR (.mk k nm kids p) = false → R = false) := fun ht => by
        rw [HR.out]
        exact List.all_eq_false.2 ⟨_, List.mem_of_getElem? hu, by simpa using ht⟩
      have hlt' : (i : Int) < (n : Int) := by omega
      have Qi : IntKind.i64.wrap ((i : Int) + 1) = (i : Int) + 1 := IntWalk.i64_in _ (by omega)
      simp only [List.append_toArray, List.cons_append, List.nil_append] at c1
      cases hB : exR (.mk k nm kids p)
      · rw [hB] at c1
        have HB := Lib.hid hB
        clear hu hf hB hk hat HN
        go_wp2_with fail
        refine c1.mono ?_
        clear c1
        rintro e w1 ⟨rfl, hb1⟩
        go_wp2_with fail
        go_ret
        exact ⟨by rw [HA.out HB.out]; rfl, tr hb hb1⟩
      · rw [hB] at c1
        have HB := Lib.hid hB
        clear hu hf hB hk hat HA
        go_wp2_with fail
        refine c1.mono ?_
        clear c1
        rintro e w1 ⟨rfl, hb1⟩
        go_wp2_with fail
        go_roundw
        case rel => exact ⟨i + 1, by go_num, by omega, tr hb hb1, by rw [HN.out, HB.out]; rfl⟩
        case measure => simp [intOf]; omega
    · have HM : Hid (R = true) := by
        show R = true
        rw [HR.out]
        have := hf.out
        rwa [List.take_of_length_le (by have := HL.out; omega)] at this
      have hlt' : ¬ (i : Int) < (n : Int) := by omega
      clear hf
      go_wp2_with fail
      go_ret
      exact ⟨by rw [HM.out]; rfl, hb⟩

section
variable (ok : Nat → Prop) (w0 : World) (n : List UInt8) (kids : List Nd) (p : Int) (hw : wtL kids + n.length < 2 ^ 40) (hG : Gl w0) (h : ∀ x ∈ kids, OneQ 154 [] ok exR w0 x ∧ OneQ 157 [] ok argR w0 x)
set_option maxHeartbeats 4000000 in
set_option maxRecDepth 100000 in
include hw h in
theorem rargs_any27 (k : Int) : OneQ 157 [] ok argR w0 (.mk k n kids p) := by
  intro v w1 hb hv
  obtain ⟨y, c, rfl, hrow⟩ := hv
  generalize c.val = c
  have hlen := len_wtL kids
  have hE : argR (.mk k n kids p) = (decide (k = 8) && n.isEmpty && exsR kids) := by
    show (decide (k = 8) && partR (.mk k n kids p)) = _
    rw [partR]
    by_cases h8 : k = 8
    · subst h8
      rfl
    · simp [h8]
  obtain ⟨R, hR⟩ : ∃ R, argR (.mk k n kids p) = R := ⟨_, rfl⟩
  rw [hR] at hE ⊢
  have HR := Lib.hid hE
  show Calls _ _ _ _ (Yes _ w1)
  simp only [List.append_toArray, List.cons_append, List.nil_append]
  have hA : Below w1.heap.size w1 (w1.alloc (ndO k n y kids.length c p)) := (Below.refl _ _).alloc (Nat.le_refl _) _
  have B0 := Lib.hid (NdBox.new w1 k n y kids.length c p)
  have HA := Lib.hid hA
  have C1 : Hid (∀ W, Below (w1.alloc (ndO k n y kids.length c p)).heap.size (w1.alloc (ndO k n y kids.length c p)) W → Calls Tryz.prog 193 #[.slice y kids.length c] W (Yes (exsR kids) W)) := fun W hW =>
    rall_any ok kids kids.length rfl (by omega) y c W ((hrow.below hA).below hW) (fun x hx => (((h x hx).1.below hb).below hA).below hW)
  obtain ⟨m, hm⟩ : ∃ m, kids.length = m := ⟨_, rfl⟩
  rw [hm] at B0 HA C1 ⊢
  unfold ndO at B0 HA C1
  obtain ⟨B, hB⟩ : ∃ B, exsR kids = B := ⟨_, rfl⟩
  rw [hB] at C1 HR
  clear hrow hb hA hw hE hm hlen hR hB h
  go_enter Tryz.func157, Tryz.ntmps157
  go_wp2_with fail
  generalize w1.alloc (.cells #[.int .i64 k, .string ⟨n.toArray⟩, .slice y m c, .int .i64 p] 53) = wA at *

  refine (C1.out _ (Below.refl _ _)).mono ?_
  rintro e w2 ⟨rfl, hb2⟩
  obtain ⟨x0, x1, x2, x3⟩ := B0.out.below hb2
  have HB2 := Lib.hid hb2
  clear C1 hb2
  by_cases h8 : k = 8
  · subst h8
    by_cases hq : n = []
    · subst hq
      have HR2 : Hid (R = B) := by
        show R = B
        rw [HR.out]
        rfl
      clear HR
      go_wp2_with fail
      go_ret
      exact ⟨by rw [HR2.out]; rfl, tr HA.out HB2.out⟩
    · have Q : (n == []) = false := str_ne hq
      have HR2 : Hid (R = false) := by
        show R = false
        rw [HR.out]
        simp [hq]
      clear hq HR
      go_wp2_with fail
      go_ret
      exact ⟨by rw [HR2.out]; rfl, tr HA.out HB2.out⟩
  · have Q : (k == 8) = false := beq_eq_false_iff_ne.2 h8
    have HR2 : Hid (R = false) := by
      show R = false
      rw [HR.out]
      simp [h8]
    clear h8 HR
    go_wp2_with fail
    go_ret
    exact ⟨by rw [HR2.out]; rfl, tr HA.out HB2.out⟩
end
end Go.Proofs.YtpbkeamjdolpgaaGreatDoor
namespace Go.Proofs.YtpbkeamjdolpgaaGreatDoor
open Go.RowKit Go.Lib Go.Shelf Go.Sort

section
variable (ok : Nat → Prop) (w0 : World) (n : List UInt8) (kids : List Nd) (p : Int) (hw : wtL kids + n.length < 2 ^ 40) (hG : Gl w0) (h : ∀ x ∈ kids, OneQ 154 [] ok exR w0 x ∧ OneQ 157 [] ok argR w0 x)
set_option maxHeartbeats 4000000 in
set_option maxRecDepth 100000 in
include hw hG in
theorem rex9 : OneQ 154 [] ok exR w0 (.mk 9 n kids p) := by
  intro v w1 hb hv
  obtain ⟨y, c, rfl, hrow⟩ := hv
  generalize c.val = c
  have hlen := len_wtL kids
  have hE : exR (.mk 9 n kids p) = (numR n && decide (kids.length = 0)) := by
    rw [exR_eq]
    cases kids <;> simp
  obtain ⟨R, hR⟩ : ∃ R, exR (.mk 9 n kids p) = R := ⟨_, rfl⟩
  rw [hR] at hE ⊢
  have HR := Lib.hid hE
  show Calls _ _ _ _ (Yes _ w1)
  simp only [List.append_toArray, List.cons_append, List.nil_append]
  have hA : Below w1.heap.size w1 (w1.alloc (ndO 9 n y kids.length c p)) := (Below.refl _ _).alloc (Nat.le_refl _) _
  have B0 := Lib.hid (NdBox.new w1 9 n y kids.length c p)
  have HA := Lib.hid hA
  have C1 : Hid (∀ W, Below (w1.alloc (ndO 9 n y kids.length c p)).heap.size (w1.alloc (ndO 9 n y kids.length c p)) W → Calls Tryz.prog 192 #[.string ⟨n.toArray⟩] W (Yes (numR n) W)) := fun W hW =>
    rnumber_any27 n W (((hG.below hb).below hA).below hW)

  obtain ⟨m, hm⟩ : ∃ m, kids.length = m := ⟨_, rfl⟩
  try rw [hm] at hlen
  try rw [hm] at HR
  try rw [hm] at hE
  rw [hm] at B0 HA C1 ⊢
  have HM : Hid (m < 2 ^ 40) := by
    show m < 2 ^ 40
    omega
  unfold ndO at B0 HA C1 
  obtain ⟨B, hB⟩ : ∃ B, numR n = B := ⟨_, rfl⟩
  rw [hB] at C1 HR
  clear hrow hb hA hw hE hG hm hlen hR hB
  go_enter Tryz.func154, Tryz.ntmps154
  go_wp2_with fail
  generalize w1.alloc (.cells #[.int .i64 9, .string ⟨n.toArray⟩, .slice y m c, .int .i64 p] 53) = wA at *

  refine (C1.out _ (Below.refl _ _)).mono ?_
  rintro e w2 ⟨rfl, hb2⟩
  obtain ⟨x0, x1, x2, x3⟩ := B0.out.below hb2
  have HB2 := Lib.hid hb2
  clear C1 hb2
  by_cases hq : m = 0
  · have Q : ((m : Int) == 0) = true := by simp; omega
    have HR2 : Hid (R = B) := by
      show R = B
      rw [HR.out]
      simp [hq]
    clear hq HR
    go_wp2_with fail
    go_ret
    exact ⟨by rw [HR2.out]; rfl, tr HA.out HB2.out⟩
  · have Q : ((m : Int) == 0) = false := beq_eq_false_iff_ne.2 (by omega)
    have HR2 : Hid (R = false) := by
      show R = false
      rw [HR.out]
      simp [hq]
    clear hq HR
    go_wp2_with fail
    go_ret
    exact ⟨by rw [HR2.out]; rfl, tr HA.out HB2.out⟩

set_option maxHeartbeats 4000000 in
set_option maxRecDepth 100000 in
include hw hG in
theorem rex10 : OneQ 154 [] ok exR w0 (.mk 10 n kids p) := by
  intro v w1 hb hv
  obtain ⟨y, c, rfl, hrow⟩ := hv
  generalize c.val = c
  have hlen := len_wtL kids
  have hE : exR (.mk 10 n kids p) = (plainR n && decide (kids.length = 0)) := by
    rw [exR_eq]
    cases kids <;> simp
  obtain ⟨R, hR⟩ : ∃ R, exR (.mk 10 n kids p) = R := ⟨_, rfl⟩
  rw [hR] at hE ⊢
  have HR := Lib.hid hE
  show Calls _ _ _ _ (Yes _ w1)
  simp only [List.append_toArray, List.cons_append, List.nil_append]
  have hA : Below w1.heap.size w1 (w1.alloc (ndO 10 n y kids.length c p)) := (Below.refl _ _).alloc (Nat.le_refl _) _
  have B0 := Lib.hid (NdBox.new w1 10 n y kids.length c p)
  have HA := Lib.hid hA
  have C1 : Hid (∀ W, Below (w1.alloc (ndO 10 n y kids.length c p)).heap.size (w1.alloc (ndO 10 n y kids.length c p)) W → Calls Tryz.prog 153 #[.string ⟨n.toArray⟩] W (Yes (plainR n) W)) := fun W hW =>
    rplain_any n W (by omega) (((hG.below hb).below hA).below hW)

  obtain ⟨m, hm⟩ : ∃ m, kids.length = m := ⟨_, rfl⟩
  try rw [hm] at hlen
  try rw [hm] at HR
  try rw [hm] at hE
  rw [hm] at B0 HA C1 ⊢
  have HM : Hid (m < 2 ^ 40) := by
    show m < 2 ^ 40
    omega
  unfold ndO at B0 HA C1 
  obtain ⟨B, hB⟩ : ∃ B, plainR n = B := ⟨_, rfl⟩
  rw [hB] at C1 HR
  clear hrow hb hA hw hE hG hm hlen hR hB
  go_enter Tryz.func154, Tryz.ntmps154
  go_wp2_with fail
  generalize w1.alloc (.cells #[.int .i64 10, .string ⟨n.toArray⟩, .slice y m c, .int .i64 p] 53) = wA at *

  refine (C1.out _ (Below.refl _ _)).mono ?_
  rintro e w2 ⟨rfl, hb2⟩
  obtain ⟨x0, x1, x2, x3⟩ := B0.out.below hb2
  have HB2 := Lib.hid hb2
  clear C1 hb2
  by_cases hq : m = 0
  · have Q : ((m : Int) == 0) = true := by simp; omega
    have HR2 : Hid (R = B) := by
      show R = B
      rw [HR.out]
      simp [hq]
    clear hq HR
    go_wp2_with fail
    go_ret
    exact ⟨by rw [HR2.out]; rfl, tr HA.out HB2.out⟩
  · have Q : ((m : Int) == 0) = false := beq_eq_false_iff_ne.2 (by omega)
    have HR2 : Hid (R = false) := by
      show R = false
      rw [HR.out]
      simp [hq]
    clear hq HR
    go_wp2_with fail
    go_ret
    exact ⟨by rw [HR2.out]; rfl, tr HA.out HB2.out⟩

set_option maxHeartbeats 4000000 in
set_option maxRecDepth 100000 in
include hw h in
theorem rex11 : OneQ 154 [] ok exR w0 (.mk 11 n kids p) := by
  intro v w1 hb hv
  obtain ⟨y, c, rfl, hrow⟩ := hv
  generalize c.val = c
  have hlen := len_wtL kids
  have hE : exR (.mk 11 n kids p) = (n.isEmpty && exsR kids) := by
    rw [exR_eq]
    rfl
  obtain ⟨R, hR⟩ : ∃ R, exR (.mk 11 n kids p) = R := ⟨_, rfl⟩
  rw [hR] at hE ⊢
  have HR := Lib.hid hE
  show Calls _ _ _ _ (Yes _ w1)
  simp only [List.append_toArray, List.cons_append, List.nil_append]
  have hA : Below w1.heap.size w1 (w1.alloc (ndO 11 n y kids.length c p)) := (Below.refl _ _).alloc (Nat.le_refl _) _
  have B0 := Lib.hid (NdBox.new w1 11 n y kids.length c p)
  have HA := Lib.hid hA
  have C1 : Hid (∀ W, Below (w1.alloc (ndO 11 n y kids.length c p)).heap.size (w1.alloc (ndO 11 n y kids.length c p)) W → Calls Tryz.prog 193 #[.slice y kids.length c] W (Yes (exsR kids) W)) := fun W hW =>
    rall_any ok kids kids.length rfl (by omega) y c W ((hrow.below hA).below hW) (fun x hx => (((h x hx).1.below hb).below hA).below hW)

  obtain ⟨m, hm⟩ : ∃ m, kids.length = m := ⟨_, rfl⟩
  try rw [hm] at hlen
  try rw [hm] at HR
  try rw [hm] at hE
  rw [hm] at B0 HA C1 ⊢
  have HM : Hid (m < 2 ^ 40) := by
    show m < 2 ^ 40
    omega
  unfold ndO at B0 HA C1 
  obtain ⟨B, hB⟩ : ∃ B, exsR kids = B := ⟨_, rfl⟩
  rw [hB] at C1 HR
  clear hrow hb hA hw hE hm hlen hR hB h
  go_enter Tryz.func154, Tryz.ntmps154
  go_wp2_with fail
  generalize w1.alloc (.cells #[.int .i64 11, .string ⟨n.toArray⟩, .slice y m c, .int .i64 p] 53) = wA at *

  refine (C1.out _ (Below.refl _ _)).mono ?_
  rintro e w2 ⟨rfl, hb2⟩
  obtain ⟨x0, x1, x2, x3⟩ := B0.out.below hb2
  have HB2 := Lib.hid hb2
  clear C1 hb2
  by_cases hq : n = []
  · subst hq
    have HR2 : Hid (R = B) := by
      show R = B
      rw [HR.out]
      rfl
    clear HR
    go_wp2_with fail
    go_ret
    exact ⟨by rw [HR2.out]; rfl, tr HA.out HB2.out⟩
  · have Q : (n == []) = false := str_ne hq
    have HR2 : Hid (R = false) := by
      show R = false
      rw [HR.out]
      simp [hq]
    clear hq HR
    go_wp2_with fail
    go_ret
    exact ⟨by rw [HR2.out]; rfl, tr HA.out HB2.out⟩

set_option maxHeartbeats 4000000 in
set_option maxRecDepth 100000 in
include hw h in
theorem rex14 : OneQ 154 [] ok exR w0 (.mk 14 n kids p) := by
  intro v w1 hb hv
  obtain ⟨y, c, rfl, hrow⟩ := hv
  generalize c.val = c
  have hlen := len_wtL kids
  have hE : exR (.mk 14 n kids p) = (n.isEmpty && decide (kids.length = 2) && exsR kids) := by
    rw [exR_eq]
    rfl
  obtain ⟨R, hR⟩ : ∃ R, exR (.mk 14 n kids p) = R := ⟨_, rfl⟩
  rw [hR] at hE ⊢
  have HR := Lib.hid hE
  show Calls _ _ _ _ (Yes _ w1)
  simp only [List.append_toArray, List.cons_append, List.nil_append]
  have hA : Below w1.heap.size w1 (w1.alloc (ndO 14 n y kids.length c p)) := (Below.refl _ _).alloc (Nat.le_refl _) _
  have B0 := Lib.hid (NdBox.new w1 14 n y kids.length c p)
  have HA := Lib.hid hA
  have C1 : Hid (∀ W, Below (w1.alloc (ndO 14 n y kids.length c p)).heap.size (w1.alloc (ndO 14 n y kids.length c p)) W → Calls Tryz.prog 193 #[.slice y kids.length c] W (Yes (exsR kids) W)) := fun W hW =>
    rall_any ok kids kids.length rfl (by omega) y c W ((hrow.below hA).below hW) (fun x hx => (((h x hx).1.below hb).below hA).below hW)

  obtain ⟨m, hm⟩ : ∃ m, kids.length = m := ⟨_, rfl⟩
  try rw [hm] at hlen
  try rw [hm] at HR
  try rw [hm] at hE
  rw [hm] at B0 HA C1 ⊢
  have HM : Hid (m < 2 ^ 40) := by
    show m < 2 ^ 40
    omega
  unfold ndO at B0 HA C1 
  obtain ⟨B, hB⟩ : ∃ B, exsR kids = B := ⟨_, rfl⟩
  rw [hB] at C1 HR
  clear hrow hb hA hw hE hm hlen hR hB h
  go_enter Tryz.func154, Tryz.ntmps154
  go_wp2_with fail
  generalize w1.alloc (.cells #[.int .i64 14, .string ⟨n.toArray⟩, .slice y m c, .int .i64 p] 53) = wA at *

  refine (C1.out _ (Below.refl _ _)).mono ?_
  rintro e w2 ⟨rfl, hb2⟩
  obtain ⟨x0, x1, x2, x3⟩ := B0.out.below hb2
  have HB2 := Lib.hid hb2
  clear C1 hb2
  by_cases hq : n = []
  · subst hq
    by_cases hl : m = 2
    · have Q : ((m : Int) == 2) = true := by simp; omega
      have HR2 : Hid (R = B) := by
        show R = B
        rw [HR.out]
        simp [hl]
      clear HR hl
      go_wp2_with fail
      go_ret
      exact ⟨by rw [HR2.out]; rfl, tr HA.out HB2.out⟩
    · have Q : ((m : Int) == 2) = false := beq_eq_false_iff_ne.2 (by omega)
      have HR2 : Hid (R = false) := by
        show R = false
        rw [HR.out]
        simp [hl]
      clear HR hl
      go_wp2_with fail
      go_ret
      exact ⟨by rw [HR2.out]; rfl, tr HA.out HB2.out⟩
  · have Q : (n == []) = false := str_ne hq
    have HR2 : Hid (R = false) := by
      show R = false
      rw [HR.out]
      simp [hq]
    clear hq HR
    go_wp2_with fail
    go_ret
    exact ⟨by rw [HR2.out]; rfl, tr HA.out HB2.out⟩

set_option maxHeartbeats 4000000 in
set_option maxRecDepth 100000 in
include hw h in
theorem rex15 : OneQ 154 [] ok exR w0 (.mk 15 n kids p) := by
  intro v w1 hb hv
  obtain ⟨y, c, rfl, hrow⟩ := hv
  generalize c.val = c
  have hlen := len_wtL kids
  have hE : exR (.mk 15 n kids p) = (n.isEmpty && decide (kids.length = 3) && exsR kids) := by
    rw [exR_eq]
    rfl
  obtain ⟨R, hR⟩ : ∃ R, exR (.mk 15 n kids p) = R := ⟨_, rfl⟩
  rw [hR] at hE ⊢
  have HR := Lib.hid hE
  show Calls _ _ _ _ (Yes _ w1)
  simp only [List.append_toArray, List.cons_append, List.nil_append]
  have hA : Below w1.heap.size w1 (w1.alloc (ndO 15 n y kids.length c p)) := (Below.refl _ _).alloc (Nat.le_refl _) _
  have B0 := Lib.hid (NdBox.new w1 15 n y kids.length c p)
  have HA := Lib.hid hA
  have C1 : Hid (∀ W, Below (w1.alloc (ndO 15 n y kids.length c p)).heap.size (w1.alloc (ndO 15 n y kids.length c p)) W → Calls Tryz.prog 193 #[.slice y kids.length c] W (Yes (exsR kids) W)) := fun W hW =>
    rall_any ok kids kids.length rfl (by omega) y c W ((hrow.below hA).below hW) (fun x hx => (((h x hx).1.below hb).below hA).below hW)

  obtain ⟨m, hm⟩ : ∃ m, kids.length = m := ⟨_, rfl⟩
  try rw [hm] at hlen
  try rw [hm] at HR
  try rw [hm] at hE
  rw [hm] at B0 HA C1 ⊢
  have HM : Hid (m < 2 ^ 40) := by
    show m < 2 ^ 40
    omega
  unfold ndO at B0 HA C1 
  obtain ⟨B, hB⟩ : ∃ B, exsR kids = B := ⟨_, rfl⟩
  rw [hB] at C1 HR
  clear hrow hb hA hw hE hm hlen hR hB h
  go_enter Tryz.func154, Tryz.ntmps154
  go_wp2_with fail
  generalize w1.alloc (.cells #[.int .i64 15, .string ⟨n.toArray⟩, .slice y m c, .int .i64 p] 53) = wA at *

  refine (C1.out _ (Below.refl _ _)).mono ?_
  rintro e w2 ⟨rfl, hb2⟩
  obtain ⟨x0, x1, x2, x3⟩ := B0.out.below hb2
  have HB2 := Lib.hid hb2
  clear C1 hb2
  by_cases hq : n = []
  · subst hq
    by_cases hl : m = 3
    · have Q : ((m : Int) == 3) = true := by simp; omega
      have HR2 : Hid (R = B) := by
        show R = B
        rw [HR.out]
        simp [hl]
      clear HR hl
      go_wp2_with fail
      go_ret
      exact ⟨by rw [HR2.out]; rfl, tr HA.out HB2.out⟩
    · have Q : ((m : Int) == 3) = false := beq_eq_false_iff_ne.2 (by omega)
      have HR2 : Hid (R = false) := by
        show R = false
        rw [HR.out]
        simp [hl]
      clear HR hl
      go_wp2_with fail
      go_ret
      exact ⟨by rw [HR2.out]; rfl, tr HA.out HB2.out⟩
  · have Q : (n == []) = false := str_ne hq
    have HR2 : Hid (R = false) := by
      show R = false
      rw [HR.out]
      simp [hq]
    clear hq HR
    go_wp2_with fail
    go_ret
    exact ⟨by rw [HR2.out]; rfl, tr HA.out HB2.out⟩
end
end Go.Proofs.YtpbkeamjdolpgaaGreatDoor
