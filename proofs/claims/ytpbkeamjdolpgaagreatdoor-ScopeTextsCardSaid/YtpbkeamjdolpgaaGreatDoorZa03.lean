/- The walk of scope's expressions. The walk of scope's expressions, of any size; of its blocks, by its statements'. The walk of scope's call of a module. The walks of scope's definitions: a function's, a module's. The walk of scope's statements, kind by kind. The walk of scope's for and if. The walk of scope's if. Scope's statements by their parts: definitions, calls. Scope's statements and blocks, of any size. Plain: how many events a walk finds at most. What scope does where something is wrong. The walk of scope.Check. The walks of scope.Free and scope.Calls. What the Scope rows' statements ask: Told. Plain: TreeBack's law. The walk of TreeBack. Plain: what a text is parsed to is right, and not heavy. The walk of TreeAgain. A slice of nodes that came in: the tree that it is. -/
import Derived.Test.YtpbkeamjdolpgaaGreatDoorZa02
import Derived.Deep.QuietTactic
import Derived.BigQuiet
import Derived.Deep.CutRange
import Derived.Deep.CutBlock
import Derived.Test.YtpbkeamjdolpgaaGreatDoorZa01
import Derived.Deep.RegionHeld2
import Derived.Deep.RegionWith
import Derived.Deep.RegionHeld3
import Derived.StillTailTactics
import Derived.Laws.EntriesVeiled
import Derived.Lib.QuietBelow
import Derived.Deep.Slices
import Derived.Deep.Strs
import Derived.Lib.SmallJoins
import Derived.SizedLaws
namespace Go.Proofs.YtpbkeamjdolpgaaGreatDoor
open Go.RowKit Go.Lib
open Go.Maps (Keyed)

theorem TkMap.look {w : World} {b : Nat} {f : List UInt8 → Option (Nat × Bool)} (h : TkMap w b f) (s : List UInt8) (hs : s.length ≤ maxLen) :
    ∃ (x : Int) (z : Bool), (Instr.lookup 117 (.map (some b)) (.string ⟨s.toArray⟩) true).run Tryz.prog w = .ok (.tuple #[.agg #[.int .i64 x, .bool z], .bool (f s).isSome]) w ∧ ∀ a bl, f s = some (a, bl) → x = a ∧ z = bl := by
  obtain ⟨n, D, _, ho, hD⟩ := h
  obtain ⟨v, ps, h1, h2⟩ := ho.look_ok Tryz.kStr Tryz.underlying117 (Tryz.zeroTakes w) (tkElem_mk 0 false) (key_str s hs)
  obtain ⟨x, z, rfl, h3⟩ := tkElem_inv h2
  obtain ⟨h4, h5⟩ := hD.2 s
  refine ⟨x, z, by rw [h1, h4], fun a bl e => ?_⟩
  rw [h5 a bl e] at h3
  simp at h3
  exact ⟨h3.1.1.symm, h3.1.2.symm⟩
theorem evEs_app (ρ : Env) : ∀ a b : List Nd, evEs ρ (a ++ b) = evEs ρ a ++ evEs ρ b
  | [], _ => rfl
  | x :: r, b => by
    rw [List.cons_append, evEs, evEs, evEs_app ρ r b, List.append_assoc]
theorem evEs_snoc (ρ : Env) (a : List Nd) (x : Nd) : evEs ρ (a ++ [x]) = evEs ρ a ++ evE ρ x := by
  rw [evEs_app]
  show evEs ρ a ++ (evE ρ x ++ []) = _
  rw [List.append_nil]
def ExprOk (Γ : SCtx) (x : Nd) : Prop := ∀ (w : World) (m : Nat) (ev : List Ev) (ρ : Env) (v u : Value), NdVal w (fun b => ¬ MayT Γ b) x v → EnvAt w (MayT Γ) ρ u → WSt Γ w m ev → ev.length + (evE ρ x).length < 2 ^ 40 →
  Calls Tryz.prog 204 #[.pointer (some ⟨Γ.wb, 0, none⟩), v, u] w (SEnd Γ w m ev (evE ρ x))
set_option maxHeartbeats 4000000 in
set_option maxRecDepth 100000 in
theorem sexpr_step (Γ : SCtx) (hw : WrongOk Γ) (k : Int) (n : List UInt8) (kids : List Nd) (p : Int) (hn : n.length < 2 ^ 40) (hk : kids.length < 2 ^ 40) (hr : k = 13 → kids ≠ []) (ih : ∀ x ∈ kids, ExprOk Γ x) : ExprOk Γ (.mk k n kids p) := by
  intro w m ev ρ v u hv hu h hl
  obtain ⟨y, cv, rfl, hrow⟩ := hv
  generalize cv.val = c
  clear cv
  have hA : Below w.heap.size w (w.alloc (.cells #[.int .i64 k, .string ⟨n.toArray⟩, .slice y kids.length c, .int .i64 p] 53)) := (Below.refl _ _).alloc (Nat.le_refl _) _
  obtain ⟨F, cap, rfl, eg, -⟩ := env_any _ ρ u w hu
  have H0 := Lib.hid (SOk.start h hA)
  have HB := Lib.hid (Box4.new w (.int .i64 k) (.string ⟨n.toArray⟩) (.slice y kids.length c) (.int .i64 p))
  have HROW := Lib.hid hrow
  have HENV := Lib.hid hu
  have HW := Lib.hid hw
  have HIH := Lib.hid ih
  have HL := Lib.hid hl
  have HN := Lib.hid hn
  have HR := Lib.hid hr
  have HA := Lib.hid hA
  have HMAY := Lib.hid h.may
  clear hA hrow hu hw ih hl hn hr h
  go_enter Tryz.func204, Tryz.ntmps204
  go_upto_region 1 with (fail)
  obtain ⟨a, ha⟩ : ∃ a, w.heap.size = a := ⟨_, rfl⟩
  rw [ha] at HB ⊢
  have HAA := Lib.hid ha
  clear ha
  generalize World.alloc w (.cells #[.int .i64 k, .string ⟨n.toArray⟩, .slice y kids.length c, .int .i64 p] 53) = W at HA H0 HB ⊢
  obtain ⟨x0, x1, x2, x3, xf⟩ := HB.out.facts
  obtain ⟨B10, CA⟩ : ∃ B, ((k : Int) == 10) = B := ⟨_, rfl⟩
  obtain ⟨B13, AA⟩ : ∃ B, ((k : Int) == 13) = B := ⟨_, rfl⟩
  go_upto_block 0 with fail
  have BA := Lib.hid CA
  have DA := Lib.hid AA
  clear CA x0 x1 x2 x3 xf
  go_cut [] from 14 to 83 (fun wx => SOk Γ w m ev (exprE ρ k n kids p) wx ∧ Box4 wx a (.int .i64 k) (.string ⟨n.toArray⟩) (.slice y kids.length c) (.int .i64 p))
  case first =>
    have haw : ∀ w1, Owp (MayT Γ) W w1 → Box4 w1 a (.int .i64 k) (.string ⟨n.toArray⟩) (.slice y kids.length c) (.int .i64 p) := fun w1 ho => (ho.block a HB.out.lt (fun hm => by have := HMAY.out a hm; have := HAA.out; omega)).trans HB.out
    have HAW := Lib.hid haw
    clear haw
    cases B10
    · cases B13
      · have hE : exprE ρ k n kids p = [] := by
          have h10 : k ≠ 10 := by have := BA.out; simpa using this
          have h13 : k ≠ 13 := by have := DA.out; simpa using this
          unfold exprE
          rw [if_neg h10, if_neg h13]
        have HE := Lib.hid hE
        have q10 : ((k : Int) == 10) = false := BA.out
        clear hE
        go_wp2_with fail
        go_meet
        case rel =>
          rw [HE.out]
          exact ⟨H0.out, HB.out⟩
      · obtain rfl : k = 13 := by simpa using DA.out
        obtain ⟨X0, r, rfl⟩ : ∃ X0 r, kids = X0 :: r := by
          cases kids with
          | nil => exact absurd rfl (HR.out rfl)
          | cons a b => exact ⟨a, b, rfl⟩
        obtain ⟨k0, m0, l0, p0⟩ := X0
        obtain ⟨B, o, rfl, hat, -⟩ := HROW.out
        obtain ⟨hokb, -, -, -, y0, cv0, hy2, -⟩ := hat
        generalize cv0.val = c0' at hy2
        clear cv0
        have HK0 : Hid (∀ w1, Owp (MayT Γ) W w1 → w1.cell? ⟨B, o + 2, none⟩ = some (.slice y0 l0.length c0')) := Lib.hid fun w1 ho => ho.cell (p := ⟨B, o + 2, none⟩) hokb.ok ((HA.out.cell (p := ⟨B, o + 2, none⟩) (World.block_lt_of_cell? w _ hy2)).trans hy2)
        clear hokb hy2
        have hEX : exprE ρ 13 n (.mk k0 m0 l0 p0 :: r) p = .call n :: (match (findE ρ 1 n false).or (fnB n) with
            | none => [.miss n p]
            | some a => if argc (.mk k0 m0 l0 p0 :: r) = a then [] else [.bad 281 n p]) := by
          unfold exprE
          rw [if_neg (by decide), if_pos rfl]
          rfl
        have HEX := Lib.hid hEX
        have HARG : Hid (argc (.mk k0 m0 l0 p0 :: r) = l0.length) := Lib.hid rfl
        clear hEX AA
        have hW0 : WSt Γ W m ev := by
          have := H0.out.2.1
          rwa [List.append_nil] at this
        have HW0 := Lib.hid hW0
        obtain ⟨-, -, -, -, -, -, c6, -⟩ := hW0.cells
        obtain ⟨cv, w2, hlook, hupd, hgrow, hcnt⟩ := CntMap.inc (w := W.drew) (b := Γ.cb) (l := calledE ev) (hW0.cal.keep rfl) (Nat.lt_of_le_of_lt (calledE_len ev) (by have := HL.out; omega)) n (by have := HN.out; unfold maxLen; omega)
        obtain ⟨x0, x1, x2, x3, xf⟩ := HB.out.facts
        have H2 : Hid (WSt Γ w2 m (ev ++ [.call n])) := Lib.hid (WSt.called (w := W.drew) (hW0.same fun _ _ => rfl) hgrow hcnt)
        have HO2 : Hid (Owp (MayT Γ) W w2) := by
          have h1 : Owp (MayT Γ) W W.drew := Owp.of_below (Below.refl _ _).drew
          exact h1.trans ⟨hgrow.os, hgrow.tape, hgrow.output, hgrow.size, fun j hj hn => hgrow.block j hj (fun e => by cases e; exact hn (.inr (.inr rfl)))⟩
        have HB2 := Lib.hid (HAW.out w2 HO2.out)
        clear hcnt hW0
        go_upto_region 7 with (fail)
        go_still_tail 8, (by kernel_rfl)
        change wpList _ _ _ _ _ (World.drew W)
        go_upto_region 8 with (fail)
        clear hlook hupd hgrow c6 x0 x1 x2 x3 xf
        obtain ⟨x0, x1, x2, x3, xf⟩ := HB2.out.facts
        obtain ⟨F', cap', hf, -, hc⟩ := env_any _ ρ _ w2 ((HENV.out.below HA.out).owp HO2.out)
        cases hf
        have c0 := hc 1 n false
        unfold TkEnd at c0
        obtain ⟨tx, htx⟩ : ∃ x, tkA ρ 1 n false = x := ⟨_, rfl⟩
        obtain ⟨ty, hty⟩ : ∃ x, tkB ρ 1 n false = x := ⟨_, rfl⟩
        obtain ⟨tz, htz⟩ : ∃ x, (findE ρ 1 n false).isSome = x := ⟨_, rfl⟩
        rw [htx, hty, htz] at c0
        have HTX := Lib.hid htx
        have HTZ := Lib.hid htz
        clear hc htx hty htz
        go_wp2_with fail
        go_at_fn F
        refine c0.mono ?_
        clear c0 x0 x1 x2 x3 xf
        rintro e w3 ⟨rfl, hb3⟩
        have HW3 := Lib.hid (H2.out.below hb3)
        have HO3 := Lib.hid (HO2.out.below hb3)
        clear hb3 H2 HO2 HB2
        go_upto_region 9 with (fail)
        have hal : Below w3.heap.size w3 (w3.alloc (.cells #[.int .i64 tx, .bool ty] 171)) := (Below.refl _ _).alloc (Nat.le_refl _) _
        have HW4 := Lib.hid (HW3.out.below hal)
        have HO4 := Lib.hid (HO3.out.below hal)
        have HT4 := Lib.hid (Box2.new w3 (.int .i64 tx) (.bool ty))
        have hb8a : w.heap.size ≤ w3.heap.size ∧ W.heap.size ≤ w3.heap.size := ⟨Nat.le_trans HA.out.size HO3.out.size, HO3.out.size⟩
        obtain ⟨b8, hb8⟩ : ∃ b8, w3.heap.size = b8 := ⟨_, rfl⟩
        rw [hb8] at HT4 hb8a ⊢
        have HB8 := Lib.hid hb8a
        clear hal HW3 HO3 hb8 hb8a
        generalize World.alloc w3 (.cells #[.int .i64 tx, .bool ty] 171) = w4 at HW4 HO4 HT4 ⊢
        have HB4 := Lib.hid (HAW.out w4 HO4.out)
        cases tz
        · have hfn : findE ρ 1 n false = none := by
            have := HTZ.out
            cases h : findE ρ 1 n false with
            | none => rfl
            | some a => rw [h] at this; cases this
          have HFN := Lib.hid hfn
          clear hfn
          obtain ⟨-, c1, -, -, -, -, -, -⟩ := HW4.out.cells
          obtain ⟨lx, lz, hlook, hlk⟩ := TkMap.look (w := w4.drew) (HW4.out.fns.keep rfl) n (by have := HN.out; unfold maxLen; omega)
          have HLK := Lib.hid hlk
          obtain ⟨x0, x1, x2, x3, xf⟩ := HB4.out.facts
          have t0 : w4.cell? ⟨b8, 0, none⟩ = some (.int .i64 tx) := by simp [World.cell?, HT4.out]
          have t1 : w4.cell? ⟨b8, 1, none⟩ = some (.bool ty) := by simp [World.cell?, HT4.out]
          have tf : ∀ o, w4.frozen? ⟨b8, o, none⟩ = false := fun o => by simp only [World.frozen?, HT4.out]; simp
          obtain ⟨fz, hfz⟩ : ∃ x, ((fnB n).map fun x => (x, false)).isSome = x := ⟨_, rfl⟩
          rw [hfz] at hlook
          have HFZ := Lib.hid hfz
          clear hlk hfz
          go_upto_region 10 with (fail)
          go_region
          go_upto_region 11 with (fail)
          clear hlook c1 x0 x1 x2 x3 xf t0 t1 tf
          have hst : Ow b8 w4 (((World.setCell w4 ⟨b8, 0, none⟩ (.int .i64 lx)).setCell ⟨b8, 1, none⟩ (.bool lz)).drew) := ((((Ow.refl b8 w4).setCell (a := ⟨b8, 0, none⟩) (.inl rfl) _).setCell (a := ⟨b8, 1, none⟩) (.inl rfl) _)).drew
          have hkk : ∀ k, k ≠ b8 → (((World.setCell w4 ⟨b8, 0, none⟩ (.int .i64 lx)).setCell ⟨b8, 1, none⟩ (.bool lz)).drew).heap[k]? = w4.heap[k]? := fun k hk => (Below.heap_setCell _ _ _ _ hk).trans (Below.heap_setCell _ _ _ _ hk)
          have HW5 := Lib.hid (HW0.out.local HW4.out HB8.out.2 hkk)
          have HO5 := Lib.hid (HO4.out.fresh HB8.out.2 hst)
          have HT5 : Hid ((((World.setCell w4 ⟨b8, 0, none⟩ (.int .i64 lx)).setCell ⟨b8, 1, none⟩ (.bool lz)).drew).heap[b8]? = some (.cells #[.int .i64 lx, .bool lz] 171 (0, 0))) := by
            show ((World.setCell w4 ⟨b8, 0, none⟩ (.int .i64 lx)).setCell ⟨b8, 1, none⟩ (.bool lz)).heap[b8]? = _
            simp [World.setCell, Array.getElem?_modify, HT4.out]
          clear hst hkk HW4 HO4 HT4 HB4
          generalize World.drew ((World.setCell w4 ⟨b8, 0, none⟩ (.int .i64 lx)).setCell ⟨b8, 1, none⟩ (.bool lz)) = w5 at HW5 HO5 HT5 ⊢
          have HB5 := Lib.hid (HAW.out w5 HO5.out)
          cases fz
          · have hfb : fnB n = none := by
              have := HFZ.out
              cases h : fnB n with
              | none => rfl
              | some a => rw [h] at this; cases this
            have HE : Hid (exprE ρ 13 n (.mk k0 m0 l0 p0 :: r) p = [.call n] ++ [.miss n p]) := by
              show _ = _
              rw [HEX.out, HFN.out, hfb]
              rfl
            have hlen : (ev ++ [Ev.call n]).length < 2 ^ 40 := by
              have := HL.out
              rw [evE, HE.out] at this
              simp at this ⊢
              omega
            have cm := missing_any Γ HW.out m (ev ++ [.call n]) hlen 13 n HN.out (some ⟨B, o, none⟩) (Nd.mk k0 m0 l0 p0 :: r).length c p w5 HW5.out
            obtain ⟨x0, x1, x2, x3, xf⟩ := HB5.out.facts
            clear hfb hlen
            go_wp2_with fail
            refine cm.mono ?_
            clear cm x0 x1 x2 x3 xf
            have hpre : SOk Γ w m ev [.call n] w5 := ⟨.inr rfl, HW5.out, (Owp.of_below HA.out).trans HO5.out⟩
            have HPRE := Lib.hid hpre
            clear hpre
            rintro e w6 (⟨rfl, hok⟩ | hbad)
            · have HOK := Lib.hid (HPRE.out.trans hok)
              have HO6 := Lib.hid (HO5.out.trans hok.2.2)
              clear hok
              go_wp2_with fail
              go_meet
              case rel =>
                rw [HE.out]
                exact ⟨HOK.out, HAW.out w6 HO6.out⟩
            · have hb2 : SBad Γ w (evE ρ (.mk 13 n (.mk k0 m0 l0 p0 :: r) p)) e w6 := by
                rw [evE, HE.out]
                exact SBad.left (SBad.right HPRE.out hbad) _
              obtain ⟨ch, rfl⟩ := hbad.pan
              exact ⟨rfl, .inr hb2⟩
          · obtain ⟨fa, hfa⟩ : ∃ t, fnB n = some t := by
              have := HFZ.out
              cases h : fnB n with
              | none => rw [h] at this; cases this
              | some a => exact ⟨a, rfl⟩
            obtain ⟨rfl, -⟩ := HLK.out fa false (by rw [hfa]; rfl)
            have HFA : Hid ((findE ρ 1 n false).or (fnB n) = some fa) := by
              show _ = _
              rw [HFN.out, hfa]
              rfl
            clear hfa
            obtain ⟨L, hLL⟩ : ∃ L, l0.length = L := ⟨_, rfl⟩
            have HLL := Lib.hid hLL
            obtain ⟨E, hE⟩ : ∃ E, ((L : Int) != (fa : Int)) = E := ⟨_, rfl⟩
            have hEd : E = !decide (L = fa) := by
              rw [← hE]
              by_cases h : L = fa
              · subst h; simp
              · simp [h, bne]
                omega
            have HED := Lib.hid hEd
            clear hEd
            obtain ⟨x0, x1, x2, x3, xf⟩ := HB5.out.facts
            have t0 : w5.cell? ⟨b8, 0, none⟩ = some (.int .i64 (fa : Nat)) := by simp [World.cell?, HT5.out]
            have y2 := HK0.out w5 HO5.out
            rw [hLL] at y2
            clear hLL
            have hkl : 0 < r.length + 1 := Nat.succ_pos _
            go_upto_region 13 with (fail)
            go_quiet (fail)
            have HW7 : Hid (WSt Γ (w5.drewN nq) m (ev ++ [Ev.call n])) := Lib.hid (HW5.out.same fun _ _ => rfl)
            have HO7 : Hid (Owp (MayT Γ) W (w5.drewN nq)) := Lib.hid (HO5.out.below (bdn (Below.refl _ _) _))
            have HB7 : Hid (Box4 (w5.drewN nq) a (.int .i64 13) (.string ⟨n.toArray⟩) (.slice (some ⟨B, o, none⟩) (Nd.mk k0 m0 l0 p0 :: r).length c) (.int .i64 p)) := Lib.hid HB5.out
            clear x0 x1 x2 x3 xf t0 y2 hE hkl HW5 HO5 HB5 HT5
            generalize World.drewN w5 nq = w7 at HW7 HO7 HB7 ⊢
            obtain ⟨x0, x1, x2, x3, xf⟩ := HB7.out.facts
            have hXE : exprE ρ 13 n (.mk k0 m0 l0 p0 :: r) p = if L = fa then [Ev.call n] else [Ev.call n] ++ [.bad 281 n p] := by
              rw [HEX.out]
              have hargc : argc (.mk k0 m0 l0 p0 :: r) = L := HARG.out.trans HLL.out
              simp only [HFA.out, hargc]
              split <;> rfl
            have HXE := Lib.hid hXE
            clear hXE
            cases E
            · have hLa : L = fa := by have := HED.out; simpa using this
              have HLA := Lib.hid hLa
              clear hLa
              go_wp2_with fail
              go_meet
              case rel =>
                rw [HXE.out, if_pos HLA.out]
                exact ⟨⟨.inr rfl, HW7.out, (Owp.of_below HA.out).trans HO7.out⟩, HB7.out⟩
            · have hLa : ¬ L = fa := by have := HED.out; simpa using this
              have HLA := Lib.hid hLa
              clear hLa
              obtain ⟨-, -, -, -, c4, -, -, -⟩ := HW7.out.cells
              have hw2 := HW.out.2 13 n (some ⟨B, o, none⟩) (Nd.mk k0 m0 l0 p0 :: r).length c p 281 w7.drew
              have egw := HW.out.1
              go_upto_region 14 with (fail)
              go_still_tail 5, (by kernel_rfl)
              change wpList _ _ _ _ _ (World.drew w7)
              have HW8 : Hid (WSt Γ w7.drew m (ev ++ [Ev.call n])) := Lib.hid (HW7.out.same fun _ _ => rfl)
              have HO8 : Hid (Owp (MayT Γ) W w7.drew) := Lib.hid (HO7.out.below (Below.refl _ _).drew)
              clear HW7 HO7 HB7
              generalize World.drew w7 = w8 at *
              go_wp2_with fail
              go_at_fn Γ.wf
              refine hw2.mono ?_
              clear hw2 x0 x1 x2 x3 xf c4
              rintro e w9 (⟨ha, rfl, hb⟩ | ⟨ha, hb, b, hbl, rfl, hf⟩)
              · have HO9 := Lib.hid (HO8.out.below hb)
                have HOK : Hid (SOk Γ w m ev (exprE ρ 13 n (.mk k0 m0 l0 p0 :: r) p) w9) := by
                  show SOk _ _ _ _ _ _
                  rw [HXE.out, if_neg HLA.out]
                  refine ⟨.inl ha, ?_, (Owp.of_below HA.out).trans HO9.out⟩
                  rw [← List.append_assoc]
                  exact (HW8.out.below hb).badly _ _ _
                clear ha hb
                go_wp2_with fail
                go_meet
                case rel => exact ⟨HOK.out, HAW.out w9 HO9.out⟩
              · have HO9 := Lib.hid (HO8.out.below hb)
                refine ⟨rfl, .inr ?_⟩
                rw [evE, HXE.out, if_neg HLA.out]
                exact SBad.left ⟨ha, 281, n, p, b, rfl, by have := (Owp.of_below (P := MayT Γ) HA.out).trans HO8.out; have := this.size; omega, rfl, hf, (Owp.of_below HA.out).trans HO9.out⟩ _
        · obtain ⟨tw, htw⟩ : ∃ t, findE ρ 1 n false = some t := by
            have := HTZ.out
            cases h : findE ρ 1 n false with
            | none => rw [h] at this; cases this
            | some a => exact ⟨a, rfl⟩
          have hta : tx = tw := by rw [← HTX.out, tkA, htw]; rfl
          subst hta
          have HFA : Hid ((findE ρ 1 n false).or (fnB n) = some tx) := by
            show _ = _
            rw [htw]
            rfl
          clear htw
          obtain ⟨L, hLL⟩ : ∃ L, l0.length = L := ⟨_, rfl⟩
          have HLL := Lib.hid hLL
          obtain ⟨E, hE⟩ : ∃ E, ((L : Int) != (tx : Int)) = E := ⟨_, rfl⟩
          have hEd : E = !decide (L = tx) := by
            rw [← hE]
            by_cases h : L = tx
            · subst h; simp
            · simp [h, bne]
              omega
          have HED := Lib.hid hEd
          clear hEd
          obtain ⟨x0, x1, x2, x3, xf⟩ := HB4.out.facts
          have t0 : w4.cell? ⟨b8, 0, none⟩ = some (.int .i64 (tx : Nat)) := by simp [World.cell?, HT4.out]
          have y2 := HK0.out w4 HO4.out
          rw [hLL] at y2
          clear hLL
          have hkl : 0 < r.length + 1 := Nat.succ_pos _
          go_upto_region 13 with (fail)
          go_quiet (fail)
          have HW7 : Hid (WSt Γ (w4.drewN nq) m (ev ++ [Ev.call n])) := Lib.hid (HW4.out.same fun _ _ => rfl)
          have HO7 : Hid (Owp (MayT Γ) W (w4.drewN nq)) := Lib.hid (HO4.out.below (bdn (Below.refl _ _) _))
          have HB7 : Hid (Box4 (w4.drewN nq) a (.int .i64 13) (.string ⟨n.toArray⟩) (.slice (some ⟨B, o, none⟩) (Nd.mk k0 m0 l0 p0 :: r).length c) (.int .i64 p)) := Lib.hid HB4.out
          clear x0 x1 x2 x3 xf t0 y2 hE hkl HW4 HO4 HB4 HT4
          generalize World.drewN w4 nq = w7 at HW7 HO7 HB7 ⊢
          obtain ⟨x0, x1, x2, x3, xf⟩ := HB7.out.facts
          have hXE : exprE ρ 13 n (.mk k0 m0 l0 p0 :: r) p = if L = tx then [Ev.call n] else [Ev.call n] ++ [.bad 281 n p] := by
            rw [HEX.out]
            have hargc : argc (.mk k0 m0 l0 p0 :: r) = L := HARG.out.trans HLL.out
            simp only [HFA.out, hargc]
            split <;> rfl
          have HXE := Lib.hid hXE
          clear hXE
          cases E
          · have hLa : L = tx := by have := HED.out; simpa using this
            have HLA := Lib.hid hLa
            clear hLa
            go_wp2_with fail
            go_meet
            case rel =>
              rw [HXE.out, if_pos HLA.out]
              exact ⟨⟨.inr rfl, HW7.out, (Owp.of_below HA.out).trans HO7.out⟩, HB7.out⟩
          · have hLa : ¬ L = tx := by have := HED.out; simpa using this
            have HLA := Lib.hid hLa
            clear hLa
            obtain ⟨-, -, -, -, c4, -, -, -⟩ := HW7.out.cells
            have hw2 := HW.out.2 13 n (some ⟨B, o, none⟩) (Nd.mk k0 m0 l0 p0 :: r).length c p 281 w7.drew
            have egw := HW.out.1
            go_upto_region 14 with (fail)
            go_still_tail 5, (by kernel_rfl)
            change wpList _ _ _ _ _ (World.drew w7)
            have HW8 : Hid (WSt Γ w7.drew m (ev ++ [Ev.call n])) := Lib.hid (HW7.out.same fun _ _ => rfl)
            have HO8 : Hid (Owp (MayT Γ) W w7.drew) := Lib.hid (HO7.out.below (Below.refl _ _).drew)
            clear HW7 HO7 HB7
            generalize World.drew w7 = w8 at *
            go_wp2_with fail
            go_at_fn Γ.wf
            refine hw2.mono ?_
            clear hw2 x0 x1 x2 x3 xf c4
            rintro e w9 (⟨ha, rfl, hb⟩ | ⟨ha, hb, b, hbl, rfl, hf⟩)
            · have HO9 := Lib.hid (HO8.out.below hb)
              have HOK : Hid (SOk Γ w m ev (exprE ρ 13 n (.mk k0 m0 l0 p0 :: r) p) w9) := by
                show SOk _ _ _ _ _ _
                rw [HXE.out, if_neg HLA.out]
                refine ⟨.inl ha, ?_, (Owp.of_below HA.out).trans HO9.out⟩
                rw [← List.append_assoc]
                exact (HW8.out.below hb).badly _ _ _
              clear ha hb
              go_wp2_with fail
              go_meet
              case rel => exact ⟨HOK.out, HAW.out w9 HO9.out⟩
            · have HO9 := Lib.hid (HO8.out.below hb)
              refine ⟨rfl, .inr ?_⟩
              rw [evE, HXE.out, if_neg HLA.out]
              exact SBad.left ⟨ha, 281, n, p, b, rfl, by have := (Owp.of_below (P := MayT Γ) HA.out).trans HO8.out; have := this.size; omega, rfl, hf, (Owp.of_below HA.out).trans HO9.out⟩ _
    · clear AA
      obtain rfl : k = 10 := by simpa using BA.out
      have hE : exprE ρ 10 n kids p = if (findE ρ 0 n false).isNone && !truthB n then [.miss n p] else [] := by unfold exprE; rw [if_pos rfl]
      obtain ⟨F', cap', hf, -, hc⟩ := env_any _ ρ _ W (HENV.out.below HA.out)
      cases hf
      have c0 := hc 0 n false
      unfold TkEnd at c0
      obtain ⟨tx, htx⟩ : ∃ x, tkA ρ 0 n false = x := ⟨_, rfl⟩
      obtain ⟨ty, hty⟩ : ∃ x, tkB ρ 0 n false = x := ⟨_, rfl⟩
      obtain ⟨tz, htz⟩ : ∃ x, (findE ρ 0 n false).isSome = x := ⟨_, rfl⟩
      rw [htx, hty, htz] at c0
      have hnone : (findE ρ 0 n false).isNone = !tz := by rw [← htz]; cases findE ρ 0 n false <;> rfl
      rw [hnone] at hE
      have HE := Lib.hid hE
      clear hc htx hty htz hnone hE
      obtain ⟨x0, x1, x2, x3, xf⟩ := HB.out.facts
      go_wp2_with fail
      go_at_fn F
      refine c0.mono ?_
      clear c0 x0 x1 x2 x3 xf
      rintro e w1 ⟨rfl, hb1⟩
      have HW1 := Lib.hid (H0.out.2.1.below hb1)
      have HO1 : Hid (Owp (MayT Γ) W w1) := Lib.hid (Owp.of_below hb1)
      clear hb1
      go_upto_region 4 with (fail)
      have hal : Below w1.heap.size w1 (w1.alloc (.cells #[.int .i64 tx, .bool ty] 171)) := (Below.refl _ _).alloc (Nat.le_refl _) _
      have HW2 := Lib.hid (HW1.out.below hal)
      have HO2 := Lib.hid (HO1.out.below hal)
      clear hal HW1 HO1
      generalize World.alloc w1 (.cells #[.int .i64 tx, .bool ty] 171) = w2 at HW2 HO2 ⊢
      have HO : Hid (Owp (MayT Γ) w w2) := Lib.hid ((Owp.of_below HA.out).trans HO2.out)
      have HB2 := Lib.hid (HAW.out w2 HO2.out)
      obtain ⟨x0, x1, x2, x3, xf⟩ := HB2.out.facts
      rw [List.append_nil] at HW2
      cases tz
      · have ct := truth_any n w2
        obtain ⟨tb, htb⟩ : ∃ x, truthB n = x := ⟨_, rfl⟩
        rw [htb] at ct HE
        clear htb
        cases tb
        · have HE' : Hid (exprE ρ 10 n kids p = [.miss n p]) := HE.out
          go_wp2_with (first | (go_at_call 203; (with_reducible refine ct.mono ?_); rintro e w3 ⟨rfl, rfl⟩))
          have hlen : ev.length < 2 ^ 40 := by have := HL.out; omega
          have cm := missing_any Γ HW.out m ev hlen 10 n HN.out y kids.length c p w2 HW2.out
          clear hlen
          refine cm.mono ?_
          clear cm
          rintro e w3 (⟨rfl, hok⟩ | hbad)
          · have HOK := Lib.hid hok
            clear hok
            go_wp2_with fail
            go_meet
            case rel =>
              rw [HE'.out]
              refine ⟨⟨HOK.out.1, HOK.out.2.1, HO.out.trans HOK.out.2.2⟩, ?_⟩
              exact HAW.out w3 (HO2.out.trans HOK.out.2.2)
          · have hb2 : SBad Γ w (evE ρ (.mk 10 n kids p)) e w3 := by
              rw [evE, HE'.out]
              exact SBad.left (SBad.right (ev := ev) (m := m) (e1 := []) ⟨.inr rfl, HW2.out.nil, HO.out⟩ hbad) _
            obtain ⟨ch, rfl⟩ := hbad.pan
            exact ⟨rfl, .inr hb2⟩
        · have HE' : Hid (exprE ρ 10 n kids p = []) := HE.out
          go_wp2_with (first | (go_at_call 203; (with_reducible refine ct.mono ?_); rintro e w3 ⟨rfl, rfl⟩))
          go_meet
          case rel =>
            rw [HE'.out]
            exact ⟨⟨.inr rfl, HW2.out.nil, HO.out⟩, HB2.out⟩
      · have HE' : Hid (exprE ρ 10 n kids p = []) := HE.out
        go_wp2_with fail
        go_meet
        case rel =>
          rw [HE'.out]
          exact ⟨⟨.inr rfl, HW2.out.nil, HO.out⟩, HB2.out⟩
  case rest =>
    obtain ⟨hok, hbx⟩ := hcut
    obtain ⟨x0, x1, x2, x3, xf⟩ := hbx.facts
    have HOK := Lib.hid hok
    obtain ⟨len, hlen⟩ : ∃ len, kids.length = len := ⟨_, rfl⟩
    have HLN := Lib.hid hlen
    rw [hlen] at x2 hk
    clear hok hbx HB H0 AA hlen
    go_wp2_with fail
    go_loopg [87] len (fun g v wx => ∃ i : Nat, v = .int .i64 i ∧ i + g = len ∧ SOk Γ w m ev (exprE ρ k n kids p ++ evEs ρ (kids.take i)) wx)
    case atStart => exact ⟨0, rfl, by omega, by simpa [evEs] using HOK.out⟩
    case round =>
      clear HOK x0 x1 x2 x3 xf
      obtain ⟨i, rfl, hi, hok⟩ := hrel
      have HOK := Lib.hid hok
      clear hok
      by_cases hlt : i < len
      · obtain ⟨x, hx⟩ : ∃ x, kids[i]? = some x := ⟨kids[i]'(by have := HLN.out; omega), List.getElem?_eq_getElem _⟩
        have hmem := List.mem_of_getElem? hx
        obtain ⟨B, o, rfl, hat⟩ := (NdRow.mono (fun _ h _ => h) (fun b hb hl => HOK.out.2.2.block b hl hb) _ _ HROW.out : NdRow wr (fun b => ¬ MayT Γ b) kids y).at_ hx
        have hevs : evEs ρ (kids.take (i + 1)) = evEs ρ (kids.take i) ++ evE ρ x := by rw [List.take_add_one, hx]; exact evEs_snoc ρ _ x
        have hcat : exprE ρ k n kids p ++ evEs ρ kids = (exprE ρ k n kids p ++ evEs ρ (kids.take i)) ++ (evE ρ x ++ evEs ρ (kids.drop (i + 1))) := by
          have h1 : kids = kids.take (i + 1) ++ kids.drop (i + 1) := (List.take_append_drop _ _).symm
          have h2 : evEs ρ kids = evEs ρ (kids.take (i + 1)) ++ evEs ρ (kids.drop (i + 1)) := by
            conv => lhs; rw [h1]
            exact evEs_app ρ _ _
          rw [h2, hevs]
          simp only [List.append_assoc]
        obtain ⟨k1, n1, l1, p1⟩ := x
        obtain ⟨-, z0, z1, z3, y1, c1, z2, hk1⟩ := hat
        have HX := Lib.hid (HIH.out _ hmem)
        have HEV := Lib.hid hevs
        have HCAT := Lib.hid hcat
        have HK1 := Lib.hid hk1
        have hlt' : (i : Int) < (len : Int) := by omega
        have Qi1 : IntKind.i64.wrap ((i : Int) + 1) = (i : Int) + 1 := IntWalk.i64_in _ (by omega)
        clear hx hmem hevs hcat hk1
        go_upto_region 18 with (fail)
        have hal : Below wr.heap.size wr (wr.alloc (.cells #[.int .i64 k1, .string ⟨n1.toArray⟩, .slice y1 l1.length c1, .int .i64 p1] 53)) := (Below.refl _ _).alloc (Nat.le_refl _) _
        have HO1 : Hid (Owp (MayT Γ) w (wr.alloc (.cells #[.int .i64 k1, .string ⟨n1.toArray⟩, .slice y1 l1.length c1, .int .i64 p1] 53))) := Lib.hid (HOK.out.2.2.below hal)
        have HW1 := Lib.hid (HOK.out.2.1.below hal)
        have HK2 := Lib.hid (HK1.out.below hal)
        have HBX := Lib.hid (Box4.new wr (.int .i64 k1) (.string ⟨n1.toArray⟩) (.slice y1 l1.length c1) (.int .i64 p1))
        have HC1 := Lib.hid HOK.out.1
        clear z0 z1 z2 z3 HOK HK1 hal
        obtain ⟨bx, hbx⟩ : ∃ bx, wr.heap.size = bx := ⟨_, rfl⟩
        rw [hbx] at HBX ⊢
        clear hbx
        generalize World.alloc wr (.cells #[.int .i64 k1, .string ⟨n1.toArray⟩, .slice y1 l1.length c1, .int .i64 p1] 53) = w1 at HO1 HW1 HK2 HBX ⊢
        obtain ⟨x0, x1, x2, x3, xf⟩ := HBX.out.facts
        have hpre : SOk Γ w m ev (exprE ρ k n kids p ++ evEs ρ (kids.take i)) w1 := ⟨HC1.out, HW1.out, HO1.out⟩
        have HPRE := Lib.hid hpre
        have cx := HX.out w1 m _ ρ (.agg #[.int .i64 k1, .string ⟨n1.toArray⟩, .slice y1 l1.length c1, .int .i64 p1]) _ ⟨y1, c1, rfl, HK2.out⟩ (HENV.out.owp HO1.out) HW1.out (by
          have := HL.out
          rw [evE, HCAT.out] at this
          simp only [List.length_append] at this ⊢
          omega)
        clear hpre
        go_wp2_with fail
        refine cx.mono ?_
        clear cx x0 x1 x2 x3 xf
        rintro e w2 (⟨rfl, hok⟩ | hbad)
        · have HOK : Hid (SOk Γ w m ev (exprE ρ k n kids p ++ evEs ρ (kids.take (i + 1))) w2) := by
            show SOk _ _ _ _ _ _
            rw [HEV.out, ← List.append_assoc]
            exact HPRE.out.trans hok
          clear hok
          go_wp2_with fail
          go_roundg (gk - 1)
          case measure => omega
          case rel => exact ⟨i + 1, rfl, by omega, HOK.out⟩
        · have hb2 : SBad Γ w (evE ρ (.mk k n kids p)) e w2 := by
            rw [evE, HCAT.out]
            exact SBad.right HPRE.out (SBad.left hbad _)
          obtain ⟨ch, rfl⟩ := hbad.pan
          exact ⟨rfl, .inr hb2⟩
      · have hlt' : ¬ (i : Int) < (len : Int) := by omega
        have HE : Hid (SOk Γ w m ev (evE ρ (.mk k n kids p)) wr) := by
          show SOk _ _ _ _ _ _
          have := HOK.out
          rw [List.take_of_length_le (by have := HLN.out; omega)] at this
          rw [evE]
          exact this
        clear HOK
        go_wp2_with fail
        go_end0
        exact .inl ⟨rfl, HE.out⟩
end Go.Proofs.YtpbkeamjdolpgaaGreatDoor
namespace Go.Proofs.YtpbkeamjdolpgaaGreatDoor
open Go.RowKit Go.Lib
open Go.Maps (Keyed)

theorem exsR_each : ∀ {l : List Nd}, exsR l = true → ∀ x ∈ l, exR x = true
  | y :: r, h, x, hx => by
    have h' : (exR y && exsR r) = true := h
    rw [Bool.and_eq_true] at h'
    rcases List.mem_cons.1 hx with rfl | hx
    · exact h'.1
    · exact exsR_each h'.2 x hx
theorem shR_nil_cons (z : Nd) (r : List Nd) : shR [] (z :: r) = false := by simp [shR]
theorem sexpr_any (Γ : SCtx) (hw : WrongOk Γ) : ∀ (N : Nat) (x : Nd), wtN x < N → wtN x < 2 ^ 40 → (exR x = true ∨ partR x = true ∧ x.kind = 8) → ExprOk Γ x
  | N + 1, .mk k n kids p, hN, hs, hx => by
    rw [wtN_mk] at hN hs
    have hlen := len_wtL kids
    have hk : ∀ y ∈ kids, exR y = true ∨ partR y = true ∧ y.kind = 8 := by
      intro y hy
      rcases hx with hx | ⟨hx, h8⟩
      · have h0 : exR (.mk k n kids p) = (if k = 9 then numR n && kids.isEmpty
          else if k = 10 then plainR n && kids.isEmpty
          else if k = 11 then n.isEmpty && exsR kids
          else if k = 12 then (if kids.length = 1 then (decide (n = [45]) || decide (n = [33])) && exsR kids else decide (0 < levelS n) && decide (kids.length = 2) && exsR kids)
          else if k = 13 then plainR n && shR [8] kids
          else if k = 14 then n.isEmpty && decide (kids.length = 2) && exsR kids
          else if k = 15 then n.isEmpty && decide (kids.length = 3) && exsR kids
          else false) := by rw [exR]
        rw [h0] at hx
        have he : ∀ {b : Bool}, (b && kids.isEmpty) = true → False := fun h => by
          simp at h
          rw [h.2] at hy
          cases hy
        have hee : ∀ {b : Bool}, (b && exsR kids) = true → exR y = true ∨ partR y = true ∧ y.kind = 8 := fun h => by
          rw [Bool.and_eq_true] at h
          exact .inl (exsR_each h.2 y hy)
        by_cases k9 : k = 9
        · rw [if_pos k9] at hx; exact (he hx).elim
        rw [if_neg k9] at hx
        by_cases k10 : k = 10
        · rw [if_pos k10] at hx; exact (he hx).elim
        rw [if_neg k10] at hx
        by_cases k11 : k = 11
        · rw [if_pos k11] at hx; exact hee hx
        rw [if_neg k11] at hx
        by_cases k12 : k = 12
        · rw [if_pos k12] at hx
          split at hx
          · exact hee hx
          · exact hee hx
        rw [if_neg k12] at hx
        by_cases k13 : k = 13
        · rw [if_pos k13] at hx
          rw [Bool.and_eq_true] at hx
          have h2 := hx.2
          cases kids with
          | nil => cases hy
          | cons z r =>
            cases r with
            | nil =>
              have h3 : (decide (z.kind = 8) && partR z) = true := by
                rw [shR, shR] at h2
                simpa using h2
              rw [Bool.and_eq_true] at h3
              rw [List.mem_singleton] at hy
              subst hy
              exact .inr ⟨h3.2, by simpa using h3.1⟩
            | cons z2 r2 =>
              have h3 : shR [8] (z :: z2 :: r2) = ((if (8 : Int) < 0 then exR z else decide (z.kind = 8) && partR z) && shR [] (z2 :: r2)) := by rw [shR]
              rw [h3, shR_nil_cons, Bool.and_false] at h2
              cases h2
        rw [if_neg k13] at hx
        by_cases k14 : k = 14
        · rw [if_pos k14] at hx; exact hee hx
        rw [if_neg k14] at hx
        by_cases k15 : k = 15
        · rw [if_pos k15] at hx; exact hee hx
        rw [if_neg k15] at hx
        cases hx
      · have h8' : k = 8 := h8
        subst h8'
        have h2 : (n.isEmpty && exsR kids) = true := by
          rw [partR] at hx
          simpa using hx
        rw [Bool.and_eq_true] at h2
        exact .inl (exsR_each h2.2 y hy)
    refine sexpr_step Γ hw k n kids p (by omega) (by omega) ?_ fun y hy => ?_
    · rintro rfl rfl
      rcases hx with hx | ⟨-, h8⟩
      · rw [exR] at hx
        simp [shR] at hx
      · cases h8
    · have := wtL_mem hy
      exact sexpr_any Γ hw N y (by omega) (by omega) (hk y hy)
def envSs (ρ : Env) (l : List Nd) : Env := l.foldl envS ρ
theorem evSs_app : ∀ (a b : List Nd) (ρ : Env) (m : Nat), evSs (a ++ b) ρ m = evSs a ρ m ++ evSs b (envSs ρ a) m
  | [], _, _, _ => by simp [evSs, envSs]
  | x :: r, b, ρ, m => by
    rw [List.cons_append, evSs, evSs, evSs_app r b, List.append_assoc]
    rfl
def StmtOk (Γ : SCtx) (x : Nd) : Prop := ∀ (w : World) (m : Nat) (ev : List Ev) (ρ : Env) (v u : Value), NdVal w (fun b => ¬ MayT Γ b) x v → EnvAt w (MayT Γ) ρ u → WSt Γ w m ev → m + wtN x < 2 ^ 40 → ev.length + (evS x ρ m).length < 2 ^ 40 →
  Calls Tryz.prog 176 #[.pointer (some ⟨Γ.wb, 0, none⟩), v, u] w (SEndE Γ w m ev (evS x ρ m) (envS ρ x))
def BlockOk (Γ : SCtx) (l : List Nd) : Prop := ∀ (w : World) (m : Nat) (ev : List Ev) (ρ : Env) (y : Option Addr) (c : Nat) (u : Value), NdRow w (fun b => ¬ MayT Γ b) l y → EnvAt w (MayT Γ) ρ u → WSt Γ w m ev → m + wtL l < 2 ^ 40 → ev.length + (evSs l (none :: ρ) m).length < 2 ^ 40 →
  Calls Tryz.prog 134 #[.pointer (some ⟨Γ.wb, 0, none⟩), .slice y l.length c, u] w (SEnd Γ w m ev (evSs l (none :: ρ) m))
set_option maxHeartbeats 4000000 in
set_option maxRecDepth 100000 in
theorem block_step (Γ : SCtx) (l : List Nd) (ih : ∀ x ∈ l, StmtOk Γ x) : BlockOk Γ l := by
  intro w m ev ρ y c u hrow hu h hwt hl
  have cw := within_any (MayT Γ) ρ u w hu h.may
  have HH := Lib.hid h
  have HROW := Lib.hid hrow
  have HIH := Lib.hid ih
  have HL := Lib.hid hl
  have HWT := Lib.hid hwt
  have hk : l.length < 2 ^ 40 := by
    have := len_wtL l
    omega
  obtain ⟨len, hlen⟩ : ∃ len, l.length = len := ⟨_, rfl⟩
  have HLN := Lib.hid hlen
  rw [hlen] at hk ⊢
  clear h hrow ih hl hu hwt hlen
  go_enter Tryz.func134, Tryz.ntmps134
  go_wp2_with fail
  refine cw.mono ?_
  clear cw
  rintro e w1 ⟨u1, rfl, he1, hb1⟩
  have HE1 := Lib.hid he1
  have HOK1 := Lib.hid (SOk.start HH.out hb1)
  clear he1 hb1
  go_wp2_with fail
  go_loopg [2, 12] len (fun g u v wx => ∃ i : Nat, v = .int .i64 i ∧ i + g = len ∧ EnvAt wx (MayT Γ) (envSs (none :: ρ) (l.take i)) u ∧ SOk Γ w m ev (evSs (l.take i) (none :: ρ) m) wx)
  case atStart => exact ⟨0, rfl, by omega, HE1.out, by simpa [evSs] using HOK1.out⟩
  case round =>
    clear HOK1 HE1
    obtain ⟨i, rfl, hi, hen, hok⟩ := hrel
    have HEN := Lib.hid hen
    have HOK := Lib.hid hok
    clear hok hen
    by_cases hlt : i < len
    · obtain ⟨x, hx⟩ : ∃ x, l[i]? = some x := ⟨l[i]'(by have := HLN.out; omega), List.getElem?_eq_getElem _⟩
      have hmem := List.mem_of_getElem? hx
      obtain ⟨B, o, rfl, hat⟩ := (NdRow.mono (fun _ h _ => h) (fun b hb hl => HOK.out.2.2.block b hl hb) _ _ HROW.out : NdRow wr (fun b => ¬ MayT Γ b) l y).at_ hx
      have htk : l.take (i + 1) = l.take i ++ [x] := by rw [List.take_add_one, hx]; rfl
      have hevs : evSs (l.take (i + 1)) (none :: ρ) m = evSs (l.take i) (none :: ρ) m ++ evS x (envSs (none :: ρ) (l.take i)) m := by
        rw [htk, evSs_app]
        show _ ++ (evS x _ m ++ []) = _
        rw [List.append_nil]
      have henv : envSs (none :: ρ) (l.take (i + 1)) = envS (envSs (none :: ρ) (l.take i)) x := by
        rw [htk]
        unfold envSs
        rw [List.foldl_append]
        rfl
      obtain ⟨E2, hcat⟩ : ∃ E2, evSs l (none :: ρ) m = evSs (l.take i) (none :: ρ) m ++ (evS x (envSs (none :: ρ) (l.take i)) m ++ E2) := by
        refine ⟨evSs (l.drop (i + 1)) (envSs (none :: ρ) (l.take (i + 1))) m, ?_⟩
        have h1 : l = l.take (i + 1) ++ l.drop (i + 1) := (List.take_append_drop _ _).symm
        conv => lhs; rw [h1]
        rw [evSs_app, hevs, List.append_assoc]
      have hwx := wtL_mem hmem
      obtain ⟨k1, n1, l1, p1⟩ := x
      obtain ⟨-, z0, z1, z3, y1, c1, z2, hk1⟩ := hat
      have HX := Lib.hid (HIH.out _ hmem)
      have HEV := Lib.hid hevs
      have HNV := Lib.hid henv
      have HCAT := Lib.hid hcat
      have HK1 := Lib.hid hk1
      have HWX := Lib.hid hwx
      have hlt' : (i : Int) < (len : Int) := by omega
      have Qi1 : IntKind.i64.wrap ((i : Int) + 1) = (i : Int) + 1 := IntWalk.i64_in _ (by omega)
      clear hx hmem hevs hcat hk1 henv htk hwx
      go_upto_region 4 with (fail)
      have hal : Below wr.heap.size wr (wr.alloc (.cells #[.int .i64 k1, .string ⟨n1.toArray⟩, .slice y1 l1.length c1, .int .i64 p1] 53)) := (Below.refl _ _).alloc (Nat.le_refl _) _
      have HO1 : Hid (Owp (MayT Γ) w (wr.alloc (.cells #[.int .i64 k1, .string ⟨n1.toArray⟩, .slice y1 l1.length c1, .int .i64 p1] 53))) := Lib.hid (HOK.out.2.2.below hal)
      have HW1 := Lib.hid (HOK.out.2.1.below hal)
      have HK2 := Lib.hid (HK1.out.below hal)
      have HEN1 := Lib.hid (HEN.out.below hal)
      have HBX := Lib.hid (Box4.new wr (.int .i64 k1) (.string ⟨n1.toArray⟩) (.slice y1 l1.length c1) (.int .i64 p1))
      have HC1 := Lib.hid HOK.out.1
      clear z0 z1 z2 z3 HOK HK1 hal HEN
      obtain ⟨bx, hbx⟩ : ∃ bx, wr.heap.size = bx := ⟨_, rfl⟩
      rw [hbx] at HBX ⊢
      clear hbx
      generalize World.alloc wr (.cells #[.int .i64 k1, .string ⟨n1.toArray⟩, .slice y1 l1.length c1, .int .i64 p1] 53) = w2 at HO1 HW1 HK2 HBX HEN1 ⊢
      obtain ⟨x0, x1, x2, x3, xf⟩ := HBX.out.facts
      have hpre : SOk Γ w m ev (evSs (l.take i) (none :: ρ) m) w2 := ⟨HC1.out, HW1.out, HO1.out⟩
      have HPRE := Lib.hid hpre
      have cx := HX.out w2 m _ (envSs (none :: ρ) (l.take i)) (.agg #[.int .i64 k1, .string ⟨n1.toArray⟩, .slice y1 l1.length c1, .int .i64 p1]) _ ⟨y1, c1, rfl, HK2.out⟩ HEN1.out HW1.out (by
        have := HWT.out
        have := HWX.out
        omega) (by
        have := HL.out
        rw [HCAT.out] at this
        simp only [List.length_append] at this ⊢
        omega)
      clear hpre
      go_wp2_with fail
      refine cx.mono ?_
      clear cx x0 x1 x2 x3 xf
      rintro e w3 (⟨u3, rfl, he3, hok⟩ | hbad)
      · have HOK : Hid (SOk Γ w m ev (evSs (l.take (i + 1)) (none :: ρ) m) w3) := by
          show SOk _ _ _ _ _ _
          rw [HEV.out]
          exact HPRE.out.trans hok
        have HEN3 : Hid (EnvAt w3 (MayT Γ) (envSs (none :: ρ) (l.take (i + 1))) u3) := by
          show EnvAt _ _ _ _
          rw [HNV.out]
          exact he3
        clear hok he3
        go_wp2_with fail
        go_roundg (gk - 1)
        case measure => omega
        case rel => exact ⟨i + 1, rfl, by omega, HEN3.out, HOK.out⟩
      · have hb2 : SBad Γ w (evSs l (none :: ρ) m) e w3 := by
          rw [HCAT.out]
          exact SBad.right HPRE.out (SBad.left hbad _)
        obtain ⟨ch, rfl⟩ := hbad.pan
        exact ⟨rfl, .inr hb2⟩
    · have hlt' : ¬ (i : Int) < (len : Int) := by omega
      have HE : Hid (SOk Γ w m ev (evSs l (none :: ρ) m) wr) := by
        show SOk _ _ _ _ _ _
        have := HOK.out
        rw [List.take_of_length_le (by have := HLN.out; omega)] at this
        exact this
      clear HOK HEN
      go_wp2_with fail
      go_end0
      exact .inl ⟨rfl, HE.out⟩
end Go.Proofs.YtpbkeamjdolpgaaGreatDoor
namespace Go.Proofs.YtpbkeamjdolpgaaGreatDoor
open Go.RowKit Go.Lib
open Go.Maps (Keyed)

def cntE (R : Option (Nat × Bool)) (n : List UInt8) (c len : Nat) (p : Int) : List Ev := match R with
  | none => [.miss n p]
  | some (a, bl) => if c ≠ a ∨ (1 < len ∧ bl = false) then [.bad 281 n p] else []
def mdlE (ρ : Env) (m : Nat) (n : List UInt8) : Option (Nat × Bool) := ((findE ρ 2 n false).map fun a => (a, true)).or (if n = wChildren ∧ m = 0 then none else mdB n)
theorem callE_eq (ρ : Env) (m : Nat) (n : List UInt8) (kids : List Nd) (p : Int) : callE ρ m n kids p = [.call n] ++ cntE (mdlE ρ m n) n (argc kids) kids.length p := rfl
def CallOk (Γ : SCtx) (k : Int) (n : List UInt8) (kids : List Nd) (p : Int) : Prop := ∀ (w : World) (m : Nat) (ev : List Ev) (ρ : Env) (v u : Value), NdVal w (fun b => ¬ MayT Γ b) (.mk k n kids p) v → EnvAt w (MayT Γ) ρ u → WSt Γ w m ev → m + wtL kids < 2 ^ 40 →
  ev.length + (callE ρ m n kids p ++ (evEs ρ (bodyOf kids) ++ evT kids ρ m)).length < 2 ^ 40 →
  Calls Tryz.prog 207 #[.pointer (some ⟨Γ.wb, 0, none⟩), v, u] w (SEnd Γ w m ev (callE ρ m n kids p ++ (evEs ρ (bodyOf kids) ++ evT kids ρ m)))
set_option maxHeartbeats 4000000 in
set_option maxRecDepth 100000 in
theorem call_step (Γ : SCtx) (hw : WrongOk Γ) (k : Int) (n : List UInt8) (k0 : Int) (n0 : List UInt8) (l0 : List Nd) (p0 : Int) (r : List Nd) (p : Int) (hr : r.length ≤ 1) (hn : n.length < 2 ^ 40) (ihE : ∀ x ∈ l0, ExprOk Γ x) (ihB : ∀ x ∈ r, BlockOk Γ x.kids) :
    CallOk Γ k n (.mk k0 n0 l0 p0 :: r) p := by
  intro w m ev ρ v u hv hu h hwt hl
  obtain ⟨y, cv, rfl, hrow⟩ := hv
  generalize cv.val = c
  clear cv
  obtain ⟨B, o, rfl, hat, hrow1⟩ := hrow
  obtain ⟨hokb, -, -, -, y0, cv0, hy2, hk0⟩ := hat
  generalize cv0.val = c0' at hy2
  clear cv0
  have hA : Below w.heap.size w (w.alloc (.cells #[.int .i64 k, .string ⟨n.toArray⟩, .slice (some ⟨B, o, none⟩) (Nd.mk k0 n0 l0 p0 :: r).length c, .int .i64 p] 53)) := (Below.refl _ _).alloc (Nat.le_refl _) _
  obtain ⟨F, cap, rfl, eg, -⟩ := env_any _ ρ u w hu
  obtain ⟨K, hK⟩ : ∃ K, (Nd.mk k0 n0 l0 p0 :: r).length = K := ⟨_, rfl⟩
  obtain ⟨L, hL⟩ : ∃ L, l0.length = L := ⟨_, rfl⟩
  have hK1 : K = r.length + 1 := by rw [← hK]; rfl
  have HKW : Hid (∀ w1, Owp (MayT Γ) w w1 → w1.cell? ⟨B, o + 2, none⟩ = some (.slice y0 L c0')) := Lib.hid fun w1 ho => by rw [← hL]; exact ho.cell (p := ⟨B, o + 2, none⟩) hokb.ok hy2
  have H0 := Lib.hid (SOk.start h hA)
  rw [hK] at H0 hA ⊢
  have HB := Lib.hid (Box4.new w (.int .i64 k) (.string ⟨n.toArray⟩) (.slice (some ⟨B, o, none⟩) K c) (.int .i64 p))
  have HROW := Lib.hid hk0
  have HROW1 := Lib.hid hrow1
  have HENV := Lib.hid hu
  have HW := Lib.hid hw
  have HIE := Lib.hid ihE
  have HIB := Lib.hid ihB
  have HL := Lib.hid hl
  have HN := Lib.hid hn
  have HA := Lib.hid hA
  have HMAY := Lib.hid h.may
  have HWT := Lib.hid hwt
  have HLL := Lib.hid hL
  have HKK := Lib.hid hK
  have HKR := Lib.hid (And.intro hK1 hr)
  have hLs : L < 2 ^ 40 := by
    have h1 := len_wtL l0
    have h2 : wtL (Nd.mk k0 n0 l0 p0 :: r) = wtN (Nd.mk k0 n0 l0 p0) + wtL r := rfl
    rw [wtN_mk] at h2
    omega
  have hkl : 0 < K := by omega
  clear hA hrow1 hu hw ihE ihB hl hn h hwt hL hK hk0 hK1 hr hokb hy2
  go_enter Tryz.func207, Tryz.ntmps207
  go_upto_region 1 with (fail)
  obtain ⟨a, ha⟩ : ∃ a, w.heap.size = a := ⟨_, rfl⟩
  rw [ha] at HB ⊢
  have HAA := Lib.hid ha
  clear ha
  generalize World.alloc w (.cells #[.int .i64 k, .string ⟨n.toArray⟩, .slice (some ⟨B, o, none⟩) K c, .int .i64 p] 53) = W at HA H0 HB ⊢
  have haw : ∀ w1, Owp (MayT Γ) W w1 → Box4 w1 a (.int .i64 k) (.string ⟨n.toArray⟩) (.slice (some ⟨B, o, none⟩) K c) (.int .i64 p) := fun w1 ho => (ho.block a HB.out.lt (fun hm => by have := HMAY.out a hm; have := HAA.out; omega)).trans HB.out
  have HAW := Lib.hid haw
  have HEX : Hid (callE ρ m n (Nd.mk k0 n0 l0 p0 :: r) p = [.call n] ++ cntE (mdlE ρ m n) n L K p) := Lib.hid (by
    rw [callE_eq, HKK.out, ← HLL.out]
    rfl)
  clear haw
  have hW0 : WSt Γ W m ev := by
    have := H0.out.2.1
    rwa [List.append_nil] at this
  have HW0 := Lib.hid hW0
  obtain ⟨-, -, -, -, -, -, c6, -⟩ := hW0.cells
  obtain ⟨cv, w2, hlook, hupd, hgrow, hcnt⟩ := CntMap.inc (w := W.drew) (b := Γ.cb) (l := calledE ev) (hW0.cal.keep rfl) (Nat.lt_of_le_of_lt (calledE_len ev) (by have := HL.out; omega)) n (by have := HN.out; unfold maxLen; omega)
  obtain ⟨x0, x1, x2, x3, xf⟩ := HB.out.facts
  have H2 : Hid (WSt Γ w2 m (ev ++ [.call n])) := Lib.hid (WSt.called (w := W.drew) (hW0.same fun _ _ => rfl) hgrow hcnt)
  have HO2 : Hid (Owp (MayT Γ) W w2) := by
    have h1 : Owp (MayT Γ) W W.drew := Owp.of_below (Below.refl _ _).drew
    exact h1.trans ⟨hgrow.os, hgrow.tape, hgrow.output, hgrow.size, fun j hj hn => hgrow.block j hj (fun e => by cases e; exact hn (.inr (.inr rfl)))⟩
  have HB2 := Lib.hid (HAW.out w2 HO2.out)
  clear hcnt hW0
  go_still_tail 8, (by kernel_rfl)
  change wpList _ _ _ _ _ (World.drew W)
  go_upto_region 2 with (fail)
  clear hlook hupd hgrow c6 x0 x1 x2 x3 xf
  obtain ⟨x0, x1, x2, x3, xf⟩ := HB2.out.facts
  obtain ⟨F', cap', hf, -, hc⟩ := env_any _ ρ _ w2 ((HENV.out.below HA.out).owp HO2.out)
  cases hf
  have c0 := hc 2 n false
  unfold TkEnd at c0
  obtain ⟨tx, htx⟩ : ∃ x, tkA ρ 2 n false = x := ⟨_, rfl⟩
  obtain ⟨ty, hty⟩ : ∃ x, tkB ρ 2 n false = x := ⟨_, rfl⟩
  obtain ⟨tz, htz⟩ : ∃ x, (findE ρ 2 n false).isSome = x := ⟨_, rfl⟩
  rw [htx, hty, htz] at c0
  have HTX := Lib.hid htx
  have HTY := Lib.hid hty
  have HTZ := Lib.hid htz
  clear hc htx hty htz
  go_wp2_with fail
  go_at_fn F
  refine c0.mono ?_
  clear c0 x0 x1 x2 x3 xf
  rintro e w3 ⟨rfl, hb3⟩
  have HW3 := Lib.hid (H2.out.below hb3)
  have HO3 := Lib.hid (HO2.out.below hb3)
  clear hb3 H2 HO2 HB2
  go_upto_if 26 with (fail)
  have hal : Below w3.heap.size w3 (w3.alloc (.cells #[.int .i64 tx, .bool ty] 171)) := (Below.refl _ _).alloc (Nat.le_refl _) _
  have HW4 := Lib.hid (HW3.out.below hal)
  have HO4 := Lib.hid (HO3.out.below hal)
  have HT4 := Lib.hid (Box2.new w3 (.int .i64 tx) (.bool ty))
  have hb8a : w.heap.size ≤ w3.heap.size ∧ W.heap.size ≤ w3.heap.size := ⟨Nat.le_trans HA.out.size HO3.out.size, HO3.out.size⟩
  obtain ⟨b8, hb8⟩ : ∃ b8, w3.heap.size = b8 := ⟨_, rfl⟩
  rw [hb8] at HT4 hb8a ⊢
  have HB8 := Lib.hid hb8a
  clear hal HW3 HO3 hb8 hb8a
  generalize World.alloc w3 (.cells #[.int .i64 tx, .bool ty] 171) = w4 at HW4 HO4 HT4 ⊢
  have HB4 := Lib.hid (HAW.out w4 HO4.out)
  go_cut [7] from 27 to 50 (fun v wx => v = .bool (mdlE ρ m n).isSome ∧ WSt Γ wx m (ev ++ [.call n]) ∧ Owp (MayT Γ) W wx ∧ ∀ a bl, mdlE ρ m n = some (a, bl) → wx.heap[b8]? = some (.cells #[.int .i64 (a : Nat), .bool bl] 171 (0, 0)))
  case first =>
    cases tz
    · have hfn : findE ρ 2 n false = none := by
        have := HTZ.out
        cases h : findE ρ 2 n false with
        | none => rfl
        | some a => rw [h] at this; cases this
      have HMD : Hid (mdlE ρ m n = if n = wChildren ∧ m = 0 then none else mdB n) := by
        show _ = _
        unfold mdlE
        rw [hfn]
        rfl
      clear hfn
      obtain ⟨-, -, c2, c3, -, -, -, -⟩ := HW4.out.cells
      obtain ⟨lx, lz, hlook, hlk⟩ := TkMap.look (w := w4.drew) (HW4.out.mds.keep rfl) n (by have := HN.out; unfold maxLen; omega)
      have HLK := Lib.hid hlk
      obtain ⟨x0, x1, x2, x3, xf⟩ := HB4.out.facts
      have t0 : w4.cell? ⟨b8, 0, none⟩ = some (.int .i64 tx) := by simp [World.cell?, HT4.out]
      have t1 : w4.cell? ⟨b8, 1, none⟩ = some (.bool ty) := by simp [World.cell?, HT4.out]
      have tf : ∀ o, w4.frozen? ⟨b8, o, none⟩ = false := fun o => by simp only [World.frozen?, HT4.out]; simp
      obtain ⟨fz, hfz⟩ : ∃ x, (mdB n).isSome = x := ⟨_, rfl⟩
      rw [hfz] at hlook
      have HFZ := Lib.hid hfz
      clear hlk hfz
      go_upto_region 4 with (fail)
      go_region
      go_upto_region 5 with (fail)
      clear hlook c2 c3 x0 x1 x2 x3 xf t0 t1 tf
      have hst : Ow b8 w4 (((World.setCell w4 ⟨b8, 0, none⟩ (.int .i64 lx)).setCell ⟨b8, 1, none⟩ (.bool lz)).drew) := ((((Ow.refl b8 w4).setCell (a := ⟨b8, 0, none⟩) (.inl rfl) _).setCell (a := ⟨b8, 1, none⟩) (.inl rfl) _)).drew
      have hkk : ∀ k, k ≠ b8 → (((World.setCell w4 ⟨b8, 0, none⟩ (.int .i64 lx)).setCell ⟨b8, 1, none⟩ (.bool lz)).drew).heap[k]? = w4.heap[k]? := fun k hk => (Below.heap_setCell _ _ _ _ hk).trans (Below.heap_setCell _ _ _ _ hk)
      have HW5 := Lib.hid (HW0.out.local HW4.out HB8.out.2 hkk)
      have HO5 := Lib.hid (HO4.out.fresh HB8.out.2 hst)
      have HT5 : Hid ((((World.setCell w4 ⟨b8, 0, none⟩ (.int .i64 lx)).setCell ⟨b8, 1, none⟩ (.bool lz)).drew).heap[b8]? = some (.cells #[.int .i64 lx, .bool lz] 171 (0, 0))) := by
        show ((World.setCell w4 ⟨b8, 0, none⟩ (.int .i64 lx)).setCell ⟨b8, 1, none⟩ (.bool lz)).heap[b8]? = _
        simp [World.setCell, Array.getElem?_modify, HT4.out]
      clear hst hkk HW4 HO4 HT4 HB4
      generalize World.drew ((World.setCell w4 ⟨b8, 0, none⟩ (.int .i64 lx)).setCell ⟨b8, 1, none⟩ (.bool lz)) = w5 at HW5 HO5 HT5 ⊢
      have HB5 := Lib.hid (HAW.out w5 HO5.out)
      have HREL : Hid (∀ b, b = (mdlE ρ m n).isSome → Value.bool b = .bool (mdlE ρ m n).isSome ∧ WSt Γ w5 m (ev ++ [.call n]) ∧ Owp (MayT Γ) W w5 ∧ ∀ a bl, mdlE ρ m n = some (a, bl) → w5.heap[b8]? = some (.cells #[.int .i64 (a : Nat), .bool bl] 171 (0, 0))) := by
        rintro b rfl
        refine ⟨rfl, HW5.out, HO5.out, fun a bl hab => ?_⟩
        rw [HMD.out] at hab
        split at hab
        · cases hab
        · obtain ⟨rfl, rfl⟩ := HLK.out a bl hab
          exact HT5.out
      have HCS : Hid (∀ b, ((n = wChildren ∧ m = 0) → b = false) → (¬ (n = wChildren ∧ m = 0) → b = fz) → b = (mdlE ρ m n).isSome) := by
        intro b h1 h2
        rw [HMD.out]
        split
        · exact h1 ‹_›
        · exact (h2 ‹_›).trans HFZ.out.symm
      obtain ⟨x0, x1, x2, x3, xf⟩ := HB5.out.facts
      obtain ⟨-, -, -, c3, -, -, -, -⟩ := HW5.out.cells
      cases fz
      · have HV := HCS.out false (fun _ => rfl) (fun _ => rfl)
        have HVV := Lib.hid HV
        clear HV
        go_wp2_with fail
        go_meet
        case rel => exact HREL.out _ HVV.out
      · by_cases hch : n = wChildren
        · by_cases hm : m = 0
          · have HVV := Lib.hid (HCS.out false (fun _ => rfl) (fun h => absurd ⟨hch, hm⟩ h))
            subst hm
            rw [hch] at x1
            unfold wChildren at x1
            clear hch
            go_wp2_with fail
            go_meet
            case rel => exact HREL.out _ HVV.out
          · have HVV := Lib.hid (HCS.out true (fun h => absurd h.2 hm) (fun _ => rfl))
            have hm1 : 0 < m := by omega
            have hm2 : (0 : Int) < (m : Int) := by omega
            rw [hch] at x1
            unfold wChildren at x1
            clear hch hm
            go_wp2_with fail
            go_meet
            case rel => exact HREL.out _ HVV.out
        · have HVV := Lib.hid (HCS.out true (fun h => absurd h.1 hch) (fun _ => rfl))
          have Q1 := str_ne hch
          unfold wChildren at Q1
          clear hch
          go_wp2_with fail
          go_meet
          case rel => exact HREL.out _ HVV.out
    · obtain ⟨tw, htw⟩ : ∃ t, findE ρ 2 n false = some t := by
        have := HTZ.out
        cases h : findE ρ 2 n false with
        | none => rw [h] at this; cases this
        | some a => exact ⟨a, rfl⟩
      have hmd : mdlE ρ m n = some (tw, true) := by
        unfold mdlE
        rw [htw]
        rfl
      have hta : tx = tw := by rw [← HTX.out, tkA, htw]; rfl
      have htb : ty = true := by rw [← HTY.out, tkB, htw]; rfl
      subst hta htb
      have HMD := Lib.hid hmd
      clear hmd htw
      go_wp2_with fail
      go_meet
      case rel =>
        rw [HMD.out]
        refine ⟨rfl, HW4.out, HO4.out, fun a bl hab => ?_⟩
        cases hab
        exact HT4.out
  case rest =>
    obtain ⟨rfl, hw5, ho5, ht5⟩ := hcut
    clear HW4 HO4 HT4 HB4 HTX HTY HTZ
    generalize mdlE ρ m n = RR at *
    have HW5 := Lib.hid hw5
    have HO5 := Lib.hid ho5
    have HT5 := Lib.hid ht5
    clear hw5 ho5 ht5
    generalize hRS : RR.isSome = RS at *
    have HRS := Lib.hid hRS
    clear hRS
    go_upto_if 52 with (fail)
    have HB5 := Lib.hid (HAW.out wc HO5.out)
    have hpre : SOk Γ w m ev [.call n] wc := ⟨.inr rfl, HW5.out, (Owp.of_below HA.out).trans HO5.out⟩
    have HPRE := Lib.hid hpre
    clear hpre
    go_cut [] from 53 to 81 (fun wx => SOk Γ w m ev ([.call n] ++ cntE RR n L K p) wx ∧ Box4 wx a (.int .i64 k) (.string ⟨n.toArray⟩) (.slice (some ⟨B, o, none⟩) K c) (.int .i64 p))
    case first =>
      clear HROW HROW1 HIE HIB HWT
      cases RR with
      | none =>
        obtain rfl : RS = false := HRS.out.symm
        have hlen : (ev ++ [Ev.call n]).length < 2 ^ 40 := by
          have := HL.out
          rw [HEX.out] at this
          simp [cntE] at this ⊢
          omega
        have cm := missing_any Γ HW.out m (ev ++ [.call n]) hlen k n HN.out (some ⟨B, o, none⟩) K c p wc HW5.out
        obtain ⟨x0, x1, x2, x3, xf⟩ := HB5.out.facts
        clear hlen
        go_wp2_with fail
        refine cm.mono ?_
        clear cm x0 x1 x2 x3 xf
        rintro e w6 (⟨rfl, hok⟩ | hbad)
        · have HOK := Lib.hid (HPRE.out.trans hok)
          have HO6 := Lib.hid (HO5.out.trans hok.2.2)
          clear hok
          go_wp2_with fail
          go_meet
          case rel => exact ⟨HOK.out, HAW.out w6 HO6.out⟩
        · have hb2 : SBad Γ w (callE ρ m n (Nd.mk k0 n0 l0 p0 :: r) p ++ (evEs ρ (bodyOf (Nd.mk k0 n0 l0 p0 :: r)) ++ evT (Nd.mk k0 n0 l0 p0 :: r) ρ m)) e w6 := by
            rw [HEX.out]
            exact SBad.left (SBad.right HPRE.out hbad) _
          obtain ⟨ch, rfl⟩ := hbad.pan
          exact ⟨rfl, .inr hb2⟩
      | some q =>
        obtain ⟨ta, tb⟩ := q
        obtain rfl : RS = true := HRS.out.symm
        obtain ⟨E, hE⟩ : ∃ E, ((L : Int) != (ta : Int)) = E := ⟨_, rfl⟩
        have HED : Hid (E = !decide (L = ta)) := Lib.hid (by
          rw [← hE]
          by_cases h : L = ta
          · subst h; simp
          · simp [h, bne]
            omega)
        go_upto_region 8 with (fail)
        obtain ⟨x0, x1, x2, x3, xf⟩ := HB5.out.facts
        have hT := HT5.out ta tb rfl
        have t0 : wc.cell? ⟨b8, 0, none⟩ = some (.int .i64 (ta : Nat)) := by simp [World.cell?, hT]
        have t1 : wc.cell? ⟨b8, 1, none⟩ = some (.bool tb) := by simp [World.cell?, hT]
        have y2 := HKW.out wc HPRE.out.2.2
        clear hT
        go_cut [75] from 56 to 75 (fun v wx => v = .bool (decide (L ≠ ta ∨ (1 < K ∧ tb = false))) ∧ ∃ nq, wx = wc.drewN nq)
        case first =>
          cases E
          · have hLa : L = ta := by have := HED.out; simpa using this
            have HLA := Lib.hid hLa
            clear hLa
            by_cases hK1 : 1 < K
            · have HK1 := Lib.hid hK1
              have d1 : decide ((1 : Int) < (K : Int)) = true := by simp; omega
              have d2 : (1 : Int) < (K : Int) := by omega
              cases tb
              · go_quiet (fail)
                go_wp2_with fail
                go_meet
                case rel =>
                  have h1 := HLA.out
                  have h2 := HK1.out
                  exact ⟨by simp [h1, h2], _, rfl⟩
              · go_quiet (fail)
                go_wp2_with fail
                go_meet
                case rel =>
                  have h1 := HLA.out
                  exact ⟨by simp [h1], _, rfl⟩
            · have HK1 := Lib.hid hK1
              have d1 : decide ((1 : Int) < (K : Int)) = false := by simp; omega
              have d2 : ¬ (1 : Int) < (K : Int) := by omega
              go_quiet (fail)
              go_wp2_with fail
              go_meet
              case rel =>
                have h1 := HLA.out
                have h2 := HK1.out
                exact ⟨by simp [h1, h2], _, rfl⟩
          · have hLa : ¬ L = ta := by have := HED.out; simpa using this
            have HLA := Lib.hid hLa
            clear hLa
            go_quiet (fail)
            go_wp2_with fail
            go_meet
            case rel =>
              have h1 := HLA.out
              exact ⟨by simp [h1], _, rfl⟩
        case rest =>
          obtain ⟨rfl, nq, rfl⟩ := hcut
          have HW7 : Hid (WSt Γ (wc.drewN nq) m (ev ++ [.call n])) := Lib.hid (HW5.out.same fun _ _ => rfl)
          have HO7 : Hid (Owp (MayT Γ) W (wc.drewN nq)) := Lib.hid (HO5.out.below (bdn (Below.refl _ _) _))
          have HB7 : Hid (Box4 (wc.drewN nq) a (.int .i64 k) (.string ⟨n.toArray⟩) (.slice (some ⟨B, o, none⟩) K c) (.int .i64 p)) := Lib.hid HB5.out
          clear x0 x1 x2 x3 xf t0 t1 y2 hE HW5 HO5 HB5 HT5 HPRE HED
          generalize World.drewN wc nq = w7 at HW7 HO7 HB7 ⊢
          obtain ⟨T, hT⟩ : ∃ T, decide (L ≠ ta ∨ (1 < K ∧ tb = false)) = T := ⟨_, rfl⟩
          rw [hT]
          have HXE : Hid (cntE (some (ta, tb)) n L K p = if T then [.bad 281 n p] else []) := Lib.hid (by
            show (if L ≠ ta ∨ (1 < K ∧ tb = false) then [Ev.bad 281 n p] else []) = _
            rw [← hT]
            by_cases h : L ≠ ta ∨ (1 < K ∧ tb = false)
            · rw [if_pos h, if_pos (decide_eq_true h)]
            · rw [if_neg h, if_neg (by rw [decide_eq_false h]; exact Bool.false_ne_true)])
          clear hT
          obtain ⟨x0, x1, x2, x3, xf⟩ := HB7.out.facts
          cases T
          · have HXF : Hid (cntE (some (ta, tb)) n L K p = []) := HXE.out
            go_wp2_with fail
            go_meet
            case rel =>
              rw [HXF.out]
              exact ⟨⟨.inr rfl, HW7.out, (Owp.of_below HA.out).trans HO7.out⟩, HB7.out⟩
          · have HXF : Hid (cntE (some (ta, tb)) n L K p = [.bad 281 n p]) := HXE.out
            obtain ⟨-, -, -, -, c4, -, -, -⟩ := HW7.out.cells
            have hw2 := HW.out.2 k n (some ⟨B, o, none⟩) K c p 281 w7.drew
            have egw := HW.out.1
            go_upto_region 9 with (fail)
            go_still_tail 5, (by kernel_rfl)
            change wpList _ _ _ _ _ (World.drew w7)
            have HW8 : Hid (WSt Γ w7.drew m (ev ++ [.call n])) := Lib.hid (HW7.out.same fun _ _ => rfl)
            have HO8 : Hid (Owp (MayT Γ) W w7.drew) := Lib.hid (HO7.out.below (Below.refl _ _).drew)
            clear HW7 HO7 HB7
            generalize World.drew w7 = w8 at *
            go_wp2_with fail
            go_at_fn Γ.wf
            refine hw2.mono ?_
            clear hw2 x0 x1 x2 x3 xf c4
            rintro e w9 (⟨ha, rfl, hb⟩ | ⟨ha, hb, b, hbl, rfl, hf⟩)
            · have HO9 := Lib.hid (HO8.out.below hb)
              have HOK : Hid (SOk Γ w m ev ([.call n] ++ cntE (some (ta, tb)) n L K p) w9) := by
                show SOk _ _ _ _ _ _
                rw [HXF.out]
                refine ⟨.inl ha, ?_, (Owp.of_below HA.out).trans HO9.out⟩
                rw [← List.append_assoc]
                exact (HW8.out.below hb).badly _ _ _
              clear ha hb
              go_wp2_with fail
              go_meet
              case rel => exact ⟨HOK.out, HAW.out w9 HO9.out⟩
            · have HO9 := Lib.hid (HO8.out.below hb)
              refine ⟨rfl, .inr ?_⟩
              rw [HEX.out, HXF.out]
              refine SBad.left ⟨ha, 281, n, p, b, rfl, ?_, rfl, hf, (Owp.of_below HA.out).trans HO9.out⟩ _
              have := (Owp.of_below (P := MayT Γ) HA.out).trans HO8.out
              have := this.size
              omega
    case rest =>
      obtain ⟨hok, hbx⟩ := hcut
      obtain ⟨x0, x1, x2, x3, xf⟩ := hbx.facts
      rw [← HEX.out] at hok
      have HOK := Lib.hid hok
      have HOK0 := HOK
      have HBX := Lib.hid hbx
      have y2 := HKW.out _ hok.2.2
      clear hok hbx HB H0 HW5 HO5 HT5 HB5 HPRE HRS
      go_wp2_with fail
      go_loopg [88] L (fun g v wx => ∃ i : Nat, v = .int .i64 i ∧ i + g = L ∧ SOk Γ w m ev (callE ρ m n (Nd.mk k0 n0 l0 p0 :: r) p ++ evEs ρ (l0.take i)) wx ∧ Box4 wx a (.int .i64 k) (.string ⟨n.toArray⟩) (.slice (some ⟨B, o, none⟩) K c) (.int .i64 p))
      case atStart => exact ⟨0, rfl, by omega, by simpa [evEs] using HOK.out, HBX.out⟩
      case round =>
        clear HOK x0 x1 x2 x3 xf y2
        obtain ⟨i, rfl, hi, hok, hbb⟩ := hrel
        have HOK := Lib.hid hok
        have HB9 := Lib.hid hbb
        clear hok hbb HBX
        by_cases hlt : i < L
        · obtain ⟨x, hx⟩ : ∃ x, l0[i]? = some x := ⟨l0[i]'(by have := HLL.out; omega), List.getElem?_eq_getElem _⟩
          have hmem := List.mem_of_getElem? hx
          obtain ⟨B1, o1, rfl, hat⟩ := (NdRow.mono (fun _ h _ => h) (fun b hb hl => HOK.out.2.2.block b hl hb) _ _ HROW.out : NdRow wr (fun b => ¬ MayT Γ b) l0 y0).at_ hx
          have hevs : evEs ρ (l0.take (i + 1)) = evEs ρ (l0.take i) ++ evE ρ x := by rw [List.take_add_one, hx]; exact evEs_snoc ρ _ x
          have hcat : callE ρ m n (Nd.mk k0 n0 l0 p0 :: r) p ++ (evEs ρ l0 ++ evT (Nd.mk k0 n0 l0 p0 :: r) ρ m) = (callE ρ m n (Nd.mk k0 n0 l0 p0 :: r) p ++ evEs ρ (l0.take i)) ++ (evE ρ x ++ (evEs ρ (l0.drop (i + 1)) ++ evT (Nd.mk k0 n0 l0 p0 :: r) ρ m)) := by
            have h1 : l0 = l0.take (i + 1) ++ l0.drop (i + 1) := (List.take_append_drop _ _).symm
            have h2 : evEs ρ l0 = evEs ρ (l0.take (i + 1)) ++ evEs ρ (l0.drop (i + 1)) := by
              conv => lhs; rw [h1]
              exact evEs_app ρ _ _
            rw [h2, hevs]
            simp only [List.append_assoc]
          obtain ⟨k1, n1, l1, p1⟩ := x
          obtain ⟨-, z0, z1, z3, y1, c1, z2, hk1⟩ := hat
          have HX := Lib.hid (HIE.out _ hmem)
          have HEV := Lib.hid hevs
          have HCAT := Lib.hid hcat
          have HK1 := Lib.hid hk1
          have hlt' : (i : Int) < (L : Int) := by omega
          have Qi1 : IntKind.i64.wrap ((i : Int) + 1) = (i : Int) + 1 := IntWalk.i64_in _ (by omega)
          clear hx hmem hevs hcat hk1
          go_upto_region 13 with (fail)
          have hal : Below wr.heap.size wr (wr.alloc (.cells #[.int .i64 k1, .string ⟨n1.toArray⟩, .slice y1 l1.length c1, .int .i64 p1] 53)) := (Below.refl _ _).alloc (Nat.le_refl _) _
          have HO1 : Hid (Owp (MayT Γ) w (wr.alloc (.cells #[.int .i64 k1, .string ⟨n1.toArray⟩, .slice y1 l1.length c1, .int .i64 p1] 53))) := Lib.hid (HOK.out.2.2.below hal)
          have HW1 := Lib.hid (HOK.out.2.1.below hal)
          have HK2 := Lib.hid (HK1.out.below hal)
          have HBY := Lib.hid (Box4.new wr (.int .i64 k1) (.string ⟨n1.toArray⟩) (.slice y1 l1.length c1) (.int .i64 p1))
          have HC1 := Lib.hid HOK.out.1
          have HBA := Lib.hid ((hal.block a HB9.out.lt).trans HB9.out)
          clear z0 z1 z2 z3 HOK HK1 hal HB9
          obtain ⟨bx, hbx⟩ : ∃ bx, wr.heap.size = bx := ⟨_, rfl⟩
          rw [hbx] at HBY ⊢
          clear hbx
          generalize World.alloc wr (.cells #[.int .i64 k1, .string ⟨n1.toArray⟩, .slice y1 l1.length c1, .int .i64 p1] 53) = w1 at HO1 HW1 HK2 HBY HBA ⊢
          obtain ⟨x0, x1, x2, x3, xf⟩ := HBY.out.facts
          have hpre : SOk Γ w m ev (callE ρ m n (Nd.mk k0 n0 l0 p0 :: r) p ++ evEs ρ (l0.take i)) w1 := ⟨HC1.out, HW1.out, HO1.out⟩
          have HPRE := Lib.hid hpre
          have cx := HX.out w1 m _ ρ (.agg #[.int .i64 k1, .string ⟨n1.toArray⟩, .slice y1 l1.length c1, .int .i64 p1]) _ ⟨y1, c1, rfl, HK2.out⟩ (HENV.out.owp HO1.out) HW1.out (by
            have := HL.out
            rw [show bodyOf (Nd.mk k0 n0 l0 p0 :: r) = l0 from rfl, HCAT.out] at this
            simp only [List.length_append] at this ⊢
            omega)
          clear hpre
          go_wp2_with fail
          refine cx.mono ?_
          clear cx x0 x1 x2 x3 xf
          rintro e w2 (⟨rfl, hok⟩ | hbad)
          · have HOK : Hid (SOk Γ w m ev (callE ρ m n (Nd.mk k0 n0 l0 p0 :: r) p ++ evEs ρ (l0.take (i + 1))) w2) := by
              show SOk _ _ _ _ _ _
              rw [HEV.out, ← List.append_assoc]
              exact HPRE.out.trans hok
            have HB3 : Hid (Box4 w2 a (.int .i64 k) (.string ⟨n.toArray⟩) (.slice (some ⟨B, o, none⟩) K c) (.int .i64 p)) := Lib.hid (hok.2.2.keep (fun hm => by have := HMAY.out a hm; have := HAA.out; omega) HBA.out)
            clear hok
            go_wp2_with fail
            go_roundg (gk - 1)
            case measure => omega
            case rel => exact ⟨i + 1, rfl, by omega, HOK.out, HB3.out⟩
          · have hb2 : SBad Γ w (callE ρ m n (Nd.mk k0 n0 l0 p0 :: r) p ++ (evEs ρ (bodyOf (Nd.mk k0 n0 l0 p0 :: r)) ++ evT (Nd.mk k0 n0 l0 p0 :: r) ρ m)) e w2 := by
              rw [show bodyOf (Nd.mk k0 n0 l0 p0 :: r) = l0 from rfl, HCAT.out]
              exact SBad.right HPRE.out (SBad.left hbad _)
            obtain ⟨ch, rfl⟩ := hbad.pan
            exact ⟨rfl, .inr hb2⟩
        · have hlt' : ¬ (i : Int) < (L : Int) := by omega
          have hfin : SOk Γ w m ev (callE ρ m n (Nd.mk k0 n0 l0 p0 :: r) p ++ evEs ρ l0) wr := by
            have := HOK.out
            rwa [List.take_of_length_le (by have := HLL.out; omega)] at this
          have HE := Lib.hid hfin
          obtain ⟨x0, x1, x2, x3, xf⟩ := HB9.out.facts
          clear HOK hfin
          cases r with
          | nil =>
            obtain rfl : K = 1 := HKR.out.1
            have HEE : Hid (SOk Γ w m ev (callE ρ m n [Nd.mk k0 n0 l0 p0] p ++ (evEs ρ (bodyOf [Nd.mk k0 n0 l0 p0]) ++ evT [Nd.mk k0 n0 l0 p0] ρ m)) wr) := by
              show SOk _ _ _ _ (_ ++ (evEs ρ l0 ++ [])) _
              rw [List.append_nil]
              exact HE.out
            go_wp2_with fail
            go_end0
            exact .inl ⟨rfl, HEE.out⟩
          | cons X1 r' =>
            obtain rfl : r' = [] := by
              have := HKR.out.2
              simp at this
              exact this
            obtain rfl : K = 2 := HKR.out.1
            obtain ⟨k2, n2, l2, p2⟩ := X1
            obtain ⟨B2, o2, hbo, hat2, -⟩ := HROW1.out
            cases hbo
            obtain ⟨hok2, -, -, -, y3, c3', hy3, hk3⟩ := hat2
            have hx2 := HE.out.2.2.cell (p := ⟨B, o + 4 + 2, none⟩) hok2.ok hy3
            have hk4 : NdRow wr (fun b => ¬ MayT Γ b) l2 y3 := NdRow.mono (fun _ h _ => h) (fun b hb hl => HE.out.2.2.block b hl hb) _ _ hk3
            have cb := HIB.out _ (List.mem_singleton_self _) wr m _ ρ y3 c3' _ hk4 (HENV.out.owp HE.out.2.2) HE.out.2.1 (by
              have h1 := HWT.out
              have h2 : wtL [Nd.mk k0 n0 l0 p0, Nd.mk k2 n2 l2 p2] = wtN (Nd.mk k0 n0 l0 p0) + (wtN (Nd.mk k2 n2 l2 p2) + 0) := rfl
              rw [wtN_mk k2] at h2
              show m + wtL l2 < _
              omega) (by
              have h1 := HL.out
              have h2 : evT [Nd.mk k0 n0 l0 p0, Nd.mk k2 n2 l2 p2] ρ m = evSs l2 (none :: ρ) m ++ [] := rfl
              rw [h2, show bodyOf [Nd.mk k0 n0 l0 p0, Nd.mk k2 n2 l2 p2] = l0 from rfl] at h1
              simp only [List.length_append, List.length_nil] at h1 ⊢
              show _ + (evSs l2 (none :: ρ) m).length < _
              omega)
            rw [show (Nd.mk k2 n2 l2 p2).kids = l2 from rfl] at cb
            clear hok2 hy3 hk3 hk4
            go_wp2_with fail
            refine cb.mono ?_
            clear cb
            have hev : callE ρ m n [Nd.mk k0 n0 l0 p0, Nd.mk k2 n2 l2 p2] p ++ (evEs ρ (bodyOf [Nd.mk k0 n0 l0 p0, Nd.mk k2 n2 l2 p2]) ++ evT [Nd.mk k0 n0 l0 p0, Nd.mk k2 n2 l2 p2] ρ m) = (callE ρ m n [Nd.mk k0 n0 l0 p0, Nd.mk k2 n2 l2 p2] p ++ evEs ρ l0) ++ evSs l2 (none :: ρ) m := by
              show _ ++ (evEs ρ l0 ++ (evSs l2 (none :: ρ) m ++ [])) = _
              rw [List.append_nil, List.append_assoc]
            have HEVV := Lib.hid hev
            clear hev
            rintro e w2 (⟨rfl, hok⟩ | hbad)
            · have HOK := Lib.hid (HE.out.trans hok)
              clear hok
              go_wp2_with fail
              go_end0
              refine .inl ⟨rfl, ?_⟩
              rw [HEVV.out]
              exact HOK.out
            · have hb2 : SBad Γ w (callE ρ m n [Nd.mk k0 n0 l0 p0, Nd.mk k2 n2 l2 p2] p ++ (evEs ρ (bodyOf [Nd.mk k0 n0 l0 p0, Nd.mk k2 n2 l2 p2]) ++ evT [Nd.mk k0 n0 l0 p0, Nd.mk k2 n2 l2 p2] ρ m)) e w2 := by
                rw [HEVV.out]
                exact SBad.right HE.out hbad
              obtain ⟨ch, rfl⟩ := hbad.pan
              exact ⟨rfl, .inr hb2⟩
end Go.Proofs.YtpbkeamjdolpgaaGreatDoor
namespace Go.Proofs.YtpbkeamjdolpgaaGreatDoor
open Go.RowKit Go.Lib
open Go.Maps (Keyed)

theorem WSt.setIn {Γ : SCtx} {w : World} {m : Nat} {ev : List Ev} (h : WSt Γ w m ev) (m' : Nat) : WSt Γ (w.setCell ⟨Γ.wb, 3, none⟩ (.int .i64 m')) m' ev := by
  have g : ∀ k, k ≠ Γ.wb → (w.setCell ⟨Γ.wb, 3, none⟩ (.int .i64 m')).heap[k]? = w.heap[k]? := fun k hk => Below.heap_setCell _ _ _ _ hk
  refine ⟨?_, h.fns.keep (g _ fun e => h.n4 (.inl e)), h.mds.keep (g _ fun e => h.n5 (.inl e)), h.fre.keep (g _ (Ne.symm h.n1)), h.cal.keep (g _ (Ne.symm h.n2)), h.n1, h.n2, h.n3, h.n4, h.n5⟩
  simp [World.setCell, Array.getElem?_modify, h.blk]
theorem Owp.setIn {Γ : SCtx} (w : World) (v : Value) : Owp (MayT Γ) w (w.setCell ⟨Γ.wb, 3, none⟩ v) := by
  have h := (Ow.refl Γ.wb w).setCell (a := ⟨Γ.wb, 3, none⟩) (.inl rfl) v
  exact ⟨h.os, h.tape, h.output, h.size, fun k hk hn => h.block k hk (fun e => hn (.inl e))⟩
theorem TkMap.lookAll {w : World} {b : Nat} {f : List UInt8 → Option (Nat × Bool)} (h : TkMap w b f) (s : List UInt8) (hs : s.length ≤ maxLen) :
    ∃ (x : Int) (z : Bool), ∀ w' : World, w'.heap[b]? = w.heap[b]? → (Instr.lookup 117 (.map (some b)) (.string ⟨s.toArray⟩) true).run Tryz.prog w' = .ok (.tuple #[.agg #[.int .i64 x, .bool z], .bool (f s).isSome]) w' := by
  obtain ⟨n, D, hn, ho, hD⟩ := h
  obtain ⟨v, ps, h1, h2⟩ := ho.look_ok Tryz.kStr Tryz.underlying117 (Tryz.zeroTakes w) (tkElem_mk 0 false) (key_str s hs)
  obtain ⟨x, z, rfl, h3⟩ := tkElem_inv h2
  refine ⟨x, z, fun w' hw => ?_⟩
  have ho' : w'.ownsMap Tryz.prog 9 tkElem b n D := by
    obtain ⟨es, clock, hb, F, hs, hD⟩ := ho
    exact ⟨es, clock, hw.trans hb, F, hs, hD⟩
  obtain ⟨v', ps', h1', h2'⟩ := ho'.look_ok Tryz.kStr Tryz.underlying117 (Tryz.zeroTakes w') (tkElem_mk 0 false) (key_str s hs)
  obtain ⟨x', z', rfl, h3'⟩ := tkElem_inv h2'
  have e : (DataW.agg [.lit (.int .i64 x'), .lit (.bool z')] : DataW Unit) = .agg [.lit (.int .i64 x), .lit (.bool z)] := by
    have a1 := congrArg Prod.fst h3
    have a2 := congrArg Prod.fst h3'
    exact a2.symm.trans a1
  simp at e
  obtain ⟨rfl, rfl⟩ := e
  rw [h1', (hD.2 s).1]
theorem parE_app : ∀ (a b : List Nd) (ρ : Env), parE ρ (a ++ b) = parE ρ a ++ parE (parV ρ a) b
  | [], _, _ => rfl
  | .mk k n l p :: r, b, ρ => by
    rw [List.cons_append, parE, parE, parE_app r b, List.append_assoc]
    rfl
theorem parV_app : ∀ (a b : List Nd) (ρ : Env), parV ρ (a ++ b) = parV (parV ρ a) b
  | [], _, _ => rfl
  | .mk k n l p :: r, b, ρ => by
    rw [List.cons_append, parV, parV, parV_app r b]
def BodyOk (Γ : SCtx) (K : Nat) (evs : Env → Nat → List Ev) (k : Int) (n : List UInt8) (kids : List Nd) (p : Int) : Prop := ∀ (w : World) (m : Nat) (ev : List Ev) (ρ : Env) (v u : Value), NdVal w (fun b => ¬ MayT Γ b) (.mk k n kids p) v → EnvAt w (MayT Γ) ρ u → WSt Γ w m ev → m + wtN (.mk k n kids p) < 2 ^ 40 →
  ev.length + (evs ρ m).length < 2 ^ 40 →
  Calls Tryz.prog 206 #[.pointer (some ⟨Γ.wb, 0, none⟩), v, .int .i64 K, u] w (SEndE Γ w m ev (evs ρ m) (some (K, n, argc kids) :: ρ))
set_option maxHeartbeats 4000000 in
set_option maxRecDepth 100000 in
theorem body1_step (Γ : SCtx) (hw : WrongOk Γ) (k : Int) (n : List UInt8) (k0 : Int) (n0 : List UInt8) (l0 : List Nd) (p0 : Int) (x1 : Nd) (p : Int) (hX : ExprOk Γ x1) :
    BodyOk Γ 1 (fun ρ _ => defE ρ 1 n p ++ (parE (none :: some (1, n, l0.length) :: ρ) l0 ++ evEs (parV (none :: some (1, n, l0.length) :: ρ) l0) [x1])) k n [.mk k0 n0 l0 p0, x1] p := by
  intro w m ev ρ v u hv hu h hwt hl
  dsimp only at hl ⊢
  obtain ⟨y, cv, rfl, hrow⟩ := hv
  generalize cv.val = c
  clear cv
  obtain ⟨B, o, rfl, hat, hrow1⟩ := hrow
  obtain ⟨hokb, -, -, -, y0, cv0, hy2, hk0⟩ := hat
  generalize cv0.val = c0' at hy2
  clear cv0
  obtain ⟨B', o', hBo, hat1, -⟩ := hrow1
  cases hBo
  have hA : Below w.heap.size w (w.alloc (.cells #[.int .i64 k, .string ⟨n.toArray⟩, .slice (some ⟨B, o, none⟩) 2 c, .int .i64 p] 53)) := (Below.refl _ _).alloc (Nat.le_refl _) _
  obtain ⟨F, cap, rfl, eg, -⟩ := env_any _ ρ u w hu
  obtain ⟨L, hL⟩ : ∃ L, l0.length = L := ⟨_, rfl⟩
  have HKW : Hid (∀ w1, Owp (MayT Γ) w w1 → w1.cell? ⟨B, o + 2, none⟩ = some (.slice y0 L c0')) := Lib.hid fun w1 ho => by rw [← hL]; exact ho.cell (p := ⟨B, o + 2, none⟩) hokb.ok hy2
  have H0 := Lib.hid (SOk.start h hA)
  have HB := Lib.hid (Box4.new w (.int .i64 k) (.string ⟨n.toArray⟩) (.slice (some ⟨B, o, none⟩) 2 c) (.int .i64 p))
  have HROW := Lib.hid hk0
  have HAT1 := Lib.hid hat1
  have HENV := Lib.hid hu
  have HW := Lib.hid hw
  have HX := Lib.hid hX
  have HL := Lib.hid hl
  have HA := Lib.hid hA
  have HMAY := Lib.hid h.may
  have HWT := Lib.hid hwt
  have HLL := Lib.hid hL
  have hwt2 : wtN (.mk k n [.mk k0 n0 l0 p0, x1] p) = (wtL l0 + n0.length + 1 + (wtN x1 + 0)) + n.length + 1 := by
    rw [wtN_mk]
    show (wtN (.mk k0 n0 l0 p0) + (wtN x1 + 0)) + _ + _ = _
    rw [wtN_mk]
  have HWT2 := Lib.hid hwt2
  have hLs : L < 2 ^ 40 := by
    have h1 := len_wtL l0
    omega
  have HN : Hid (n.length < 2 ^ 40) := Lib.hid (by omega)
  clear hA hu hw hX hl hwt hk0 hokb hy2 hwt2 hat1
  have hc := (env_any _ ρ _ _ (HENV.out.below HA.out))
  obtain ⟨F', cap', hf, -, hc⟩ := hc
  cases hf
  have c0 := hc 1 n true
  unfold TkEnd at c0
  obtain ⟨tx, htx⟩ : ∃ x, tkA ρ 1 n true = x := ⟨_, rfl⟩
  obtain ⟨ty, hty⟩ : ∃ x, tkB ρ 1 n true = x := ⟨_, rfl⟩
  obtain ⟨tz, htz⟩ : ∃ x, (findE ρ 1 n true).isSome = x := ⟨_, rfl⟩
  rw [htx, hty, htz] at c0
  have HTZ := Lib.hid htz
  clear hc htx hty htz h hL
  obtain ⟨fz, hfz⟩ : ∃ x, ((fnB n).map fun x => (x, false)).isSome = x := ⟨_, rfl⟩
  have HFZ := Lib.hid hfz
  obtain ⟨P0, hP0⟩ : ∃ P : List Ev, [] = P := ⟨_, rfl⟩
  obtain ⟨DE, hDE⟩ : ∃ D, defE ρ 1 n p = D := ⟨_, rfl⟩
  have HDE : Hid (DE = if fz || tz then [.bad 280 n p] else []) := Lib.hid (by
    rw [← hDE, ← HFZ.out, ← HTZ.out]
    unfold defE
    simp)
  rw [hDE] at HL ⊢
  obtain ⟨REST, hREST⟩ : ∃ D, parE (none :: some (1, n, l0.length) :: ρ) l0 ++ evEs (parV (none :: some (1, n, l0.length) :: ρ) l0) [x1] = D := ⟨_, rfl⟩
  have HREST := Lib.hid hREST
  rw [hREST] at HL ⊢
  have HTOT : Hid (DE ++ REST = (P0 ++ DE) ++ REST) := Lib.hid (by rw [← hP0]; rfl)
  have HP0 := Lib.hid hP0
  clear hP0 hDE hREST hfz
  go_enter Tryz.func206, Tryz.ntmps206
  go_upto_region 1 with (fail)
  obtain ⟨a, ha⟩ : ∃ a, w.heap.size = a := ⟨_, rfl⟩
  rw [ha] at HB ⊢
  have HAA := Lib.hid ha
  clear ha
  generalize World.alloc w (.cells #[.int .i64 k, .string ⟨n.toArray⟩, .slice (some ⟨B, o, none⟩) 2 c, .int .i64 p] 53) = W at HA H0 HB c0 ⊢
  have haw : ∀ w1, Owp (MayT Γ) W w1 → Box4 w1 a (.int .i64 k) (.string ⟨n.toArray⟩) (.slice (some ⟨B, o, none⟩) 2 c) (.int .i64 p) := fun w1 ho => (ho.block a HB.out.lt (fun hm => by have := HMAY.out a hm; have := HAA.out; omega)).trans HB.out
  have HAW := Lib.hid haw
  clear haw
  have hW0 : WSt Γ W m ev := by
    have := H0.out.2.1
    rwa [List.append_nil] at this
  have HW0 := Lib.hid hW0
  obtain ⟨x0, x1', x2, x3, xf⟩ := HB.out.facts
  clear hW0
  go_wp2_with fail
  go_at_fn F
  refine c0.mono ?_
  clear c0 x0 x1' x2 x3 xf
  rintro e w1 ⟨rfl, hb1⟩
  go_upto_region 2 with (fail)
  have hal : Below w1.heap.size w1 (w1.alloc (.cells #[.int .i64 tx, .bool ty] 171)) := (Below.refl _ _).alloc (Nat.le_refl _) _
  have HW2 := Lib.hid ((HW0.out.below hb1).below hal)
  have HO2 : Hid (Owp (MayT Γ) W _) := Lib.hid ((Owp.of_below hb1).below hal)
  clear hal hb1
  generalize World.alloc w1 (.cells #[.int .i64 tx, .bool ty] 171) = w2 at HW2 HO2 ⊢
  have HB2 := Lib.hid (HAW.out w2 HO2.out)
  obtain ⟨b9, hb9⟩ : ∃ b9, w2.heap.size = b9 := ⟨_, rfl⟩
  have hz : Below w2.heap.size w2 (w2.alloc (.cells #[.int .i64 0, .bool false] 171)) := (Below.refl _ _).alloc (Nat.le_refl _) _
  have HWZ := Lib.hid (HW2.out.below hz)
  have HOZ := Lib.hid (HO2.out.below hz)
  have HTZ2 := Lib.hid (Box2.new w2 (.int .i64 0) (.bool false))
  have hb9a : W.heap.size ≤ b9 := by
    have := HO2.out.size
    omega
  have HB9 := Lib.hid hb9a
  rw [hb9] at HTZ2
  have HB2Z := Lib.hid (HAW.out _ HOZ.out)
  obtain ⟨x0, x1', x2, x3, xf⟩ := HB2Z.out.facts
  obtain ⟨-, c1, c2, -, -, -, -, -⟩ := HWZ.out.cells
  obtain ⟨x0b, x1b, x2b, x3b, xfb⟩ := HB2.out.facts
  obtain ⟨-, c1b, c2b, -, -, -, -, -⟩ := HW2.out.cells
  have t0 : (w2.alloc (.cells #[.int .i64 0, .bool false] 171)).cell? ⟨b9, 0, none⟩ = some (.int .i64 0) := by simp [World.cell?, HTZ2.out]
  have t1 : (w2.alloc (.cells #[.int .i64 0, .bool false] 171)).cell? ⟨b9, 1, none⟩ = some (.bool false) := by simp [World.cell?, HTZ2.out]
  have tf : ∀ o, (w2.alloc (.cells #[.int .i64 0, .bool false] 171)).frozen? ⟨b9, o, none⟩ = false := fun o => by simp only [World.frozen?, HTZ2.out]; simp
  obtain ⟨lx, lz, hlooks⟩ := TkMap.lookAll (HW2.out.fns) n (by have := HN.out; unfold maxLen; omega)
  have hlook := hlooks w2.drew rfl
  have hlook2 := hlooks (w2.alloc (.cells #[.int .i64 0, .bool false] 171)).drew (hz.block _ HW2.out.fns.lt)
  rw [HFZ.out] at hlook hlook2
  clear hz hb9a hlooks
  go_cut [11, 12] from 26 to 37 (fun _ v wx => v = .bool fz ∧ Below w2.heap.size w2 wx)
  case first =>
    go_region
    all_goals go_wp2_with fail
    all_goals go_meet
    all_goals refine ⟨rfl, ?_⟩
    all_goals (first | exact ((Below.refl _ _).alloc (Nat.le_refl _) _).drew | exact ((Below.refl _ _).drew).alloc (Nat.le_refl _) _)
  case rest =>
  obtain ⟨rfl, hb3⟩ := hcut
  have HW3 := Lib.hid (HW2.out.below hb3)
  have HO3 := Lib.hid (HO2.out.below hb3)
  clear hlook hlook2 c1 c2 c1b c2b x0 x1' x2 x3 xf x0b x1b x2b x3b xfb t0 t1 tf hb3 HW2 HO2 HWZ HOZ HTZ2 HB2Z HB2
  obtain ⟨w3, hw3⟩ : ∃ w3, wc = w3 := ⟨_, rfl⟩
  rw [hw3] at HW3 HO3 ⊢
  clear hw3
  go_upto_region 3 with (fail)
  have HB3 := Lib.hid (HAW.out w3 HO3.out)
  have HS3 : Hid (SOk Γ w m ev P0 w3) := Lib.hid ⟨.inr (by rw [← HP0.out]; rfl), by rw [← HP0.out]; exact HW3.out.nil, (Owp.of_below HA.out).trans HO3.out⟩
  go_cut [41] from 38 to 41 (fun v wx => v = .bool (fz || tz) ∧ SOk Γ w m ev P0 wx ∧ Owp (MayT Γ) w3 wx)
  case first =>
    cases fz
    · cases tz
      · go_wp2_with fail
        go_meet
        case rel => exact ⟨rfl, HS3.out, Owp.refl _ _⟩
      · go_wp2_with fail
        go_meet
        case rel => exact ⟨rfl, HS3.out, Owp.refl _ _⟩
    · go_wp2_with fail
      go_meet
      case rel => exact ⟨rfl, HS3.out, Owp.refl _ _⟩
  case rest =>
    obtain ⟨rfl, hs4, ho4⟩ := hcut
    have HS4 := Lib.hid hs4
    have HO4 := Lib.hid (HO3.out.trans ho4)
    clear hs4 ho4 HS3 HO3 HW3 HB3
    obtain ⟨T, hT⟩ : ∃ T, (fz || tz) = T := ⟨_, rfl⟩
    rw [hT] at HDE ⊢
    clear hT
    have HB4 := Lib.hid (HAW.out wc HO4.out)
    obtain ⟨w4, hw4⟩ : ∃ w4, wc = w4 := ⟨_, rfl⟩
    rw [hw4] at HS4 HO4 HB4 ⊢
    clear hw4
    go_upto_if 41 with (fail)
    go_cut [] from 42 to 47 (fun wx => SOk Γ w m ev (P0 ++ DE) wx ∧ Owp (MayT Γ) w4 wx)
    case first =>
      obtain ⟨x0, x1', x2, x3, xf⟩ := (HB4.out).facts
      cases T
      · have HXF : Hid (DE = []) := HDE.out
        go_wp2_with fail
        go_meet
        case rel =>
          rw [HXF.out, List.append_nil]
          exact ⟨HS4.out, Owp.refl _ _⟩
      · have HXF : Hid (DE = [.bad 280 n p]) := HDE.out
        obtain ⟨-, -, -, -, c4, -, -, -⟩ := HS4.out.2.1.cells
        have hw2 := HW.out.2 k n (some ⟨B, o, none⟩) 2 c p 280 w4.drew
        have egw := HW.out.1
        go_upto_region 4 with (fail)
        go_still_tail 5, (by kernel_rfl)
        change wpList _ _ _ _ _ (World.drew w4)
        have HOa : Hid (Owp (MayT Γ) w4 w4.drew) := Lib.hid (Owp.of_below (Below.refl _ _).drew)
        have HSa : Hid (SOk Γ w m ev P0 w4.drew) := Lib.hid ⟨HS4.out.1, HS4.out.2.1.same fun _ _ => rfl, HS4.out.2.2.trans HOa.out⟩
        generalize World.drew w4 = wa at *
        go_wp2_with fail
        go_at_fn Γ.wf
        refine hw2.mono ?_
        clear hw2 x0 x1' x2 x3 xf c4
        rintro e wb (⟨ha, rfl, hb⟩ | ⟨ha, hb, b, hbl, rfl, hf⟩)
        · have HOb := Lib.hid (HOa.out.below hb)
          have HOK : Hid (SOk Γ w m ev (P0 ++ DE) wb) := by
            show SOk _ _ _ _ _ _
            rw [HXF.out]
            exact HSa.out.trans ⟨.inl ha, (HSa.out.2.1.below hb).badly _ _ _, Owp.of_below hb⟩
          clear ha hb
          go_wp2_with fail
          go_meet
          case rel => exact ⟨HOK.out, HOb.out⟩
        · refine ⟨rfl, .inr ?_⟩
          rw [HTOT.out, HXF.out]
          exact SBad.left (SBad.right HSa.out ⟨ha, 280, n, p, b, rfl, hbl, rfl, hf, Owp.of_below hb⟩) _
    case rest =>
      obtain ⟨hs5, ho5⟩ := hcut
      have HS5 : Hid (SOk Γ w m ev DE wc) := Lib.hid (by rw [← HP0.out] at hs5; exact hs5)
      have HO5 := Lib.hid (HO4.out.trans ho5)
      clear hs5 ho5 HS4 HB4 HTOT HO4
      have HB5 := Lib.hid (HAW.out wc HO5.out)
      obtain ⟨x0, x1', x2, x3, xf⟩ := HB5.out.facts
      have y2 := HKW.out wc HS5.out.2.2
      obtain ⟨w5, hw5⟩ : ∃ w5, wc = w5 := ⟨_, rfl⟩
      rw [hw5] at HS5 HO5 x0 x1' x2 x3 xf y2 ⊢
      clear HB5 hw5
      have hd5 : Below w5.heap.size w5 w5.drew := (Below.refl _ _).drew
      have HS5' := Lib.hid (⟨HS5.out.1, HS5.out.2.1.below hd5, HS5.out.2.2.below hd5⟩ : SOk Γ w m ev DE w5.drew)
      have HO5' := Lib.hid (HO5.out.below hd5)
      have cw := with_any (MayT Γ) ρ _ 1 n L false (by decide) w5.drew (HENV.out.owp HS5'.out.2.2) HS5'.out.2.1.may
      go_upto_region 5 with (fail)
      go_still_tail 13, (by kernel_rfl)
      change wpList _ _ _ _ _ (World.drew w5)
      clear hd5 HS5 HO5
      generalize World.drew w5 = w6 at *
      go_wp2_with fail
      refine cw.mono ?_
      clear cw x0 x1' x2 x3 xf y2
      rintro e w7 ⟨u3, rfl, he7, hb7⟩
      have HS7 := Lib.hid (⟨HS5'.out.1, HS5'.out.2.1.below hb7, HS5'.out.2.2.below hb7⟩ : SOk Γ w m ev DE w7)
      have HO7 := Lib.hid (HO5'.out.below hb7)
      have HE7 := Lib.hid he7
      clear he7 hb7 HS5' HO5'
      go_upto_region 6 with (fail)
      have cw := within_any (MayT Γ) _ u3 w7 HE7.out HS7.out.2.1.may
      go_wp2_with fail
      refine cw.mono ?_
      clear cw
      rintro e w8 ⟨u13, rfl, he8, hb8⟩
      have HS8 := Lib.hid (⟨HS7.out.1, HS7.out.2.1.below hb8, HS7.out.2.2.below hb8⟩ : SOk Γ w m ev DE w8)
      have HO8 := Lib.hid (HO7.out.below hb8)
      have HE8 := Lib.hid he8
      have HE3 := Lib.hid (HE7.out.below hb8)
      clear he8 hb8 HS7 HO7 HE7
      have HB8 := Lib.hid (HAW.out w8 HO8.out)
      obtain ⟨x0, x1', x2, x3, xf⟩ := HB8.out.facts
      have y2 := HKW.out w8 HS8.out.2.2
      go_upto_region 7 with (fail)
      obtain ⟨ρ1, hρ1⟩ : ∃ r, none :: some (1, n, L) :: ρ = r := ⟨_, rfl⟩
      rw [HLL.out] at HREST
      rw [hρ1] at HE8 HREST
      have HR1 := Lib.hid hρ1
      clear hρ1
      go_wp2_with fail
      go_loopg [13, 70] L (fun g u v wx => ∃ i : Nat, v = .int .i64 i ∧ i + g = L ∧ EnvAt wx (MayT Γ) (parV ρ1 (l0.take i)) u ∧ SOk Γ w m ev (DE ++ parE ρ1 (l0.take i)) wx ∧ Owp (MayT Γ) w8 wx)
      case atStart => exact ⟨0, rfl, by omega, HE8.out, by (rw [List.take_zero]; show SOk _ _ _ _ (DE ++ []) _; rw [List.append_nil]; exact HS8.out), Owp.refl _ _⟩
      case round =>
        clear x0 x1' x2 x3 xf y2 HE8 HB8
        obtain ⟨i, rfl, hi, hen, hok, how⟩ := hrel
        have HEN := Lib.hid hen
        have HOK := Lib.hid hok
        have HOW := Lib.hid how
        clear hok hen how
        by_cases hlt : i < L
        · obtain ⟨x, hx⟩ : ∃ x, l0[i]? = some x := ⟨l0[i]'(by have := HLL.out; omega), List.getElem?_eq_getElem _⟩
          obtain ⟨B1, o1, rfl, hat⟩ := (NdRow.mono (fun _ h _ => h) (fun b hb hl => HOK.out.2.2.block b hl hb) _ _ HROW.out : NdRow wr (fun b => ¬ MayT Γ b) l0 y0).at_ hx
          have htk : l0.take (i + 1) = l0.take i ++ [x] := by rw [List.take_add_one, hx]; rfl
          obtain ⟨k1, n1, l1, p1⟩ := x
          have hevs : parE ρ1 (l0.take (i + 1)) = parE ρ1 (l0.take i) ++ dupE (parV ρ1 (l0.take i)) n1 p1 := by
            rw [htk, parE_app]
            show _ ++ (dupE _ _ _ ++ []) = _
            rw [List.append_nil]
          have henv : parV ρ1 (l0.take (i + 1)) = some (0, n1, 0) :: parV ρ1 (l0.take i) := by
            rw [htk, parV_app]
            rfl
          obtain ⟨R2, hcat⟩ : ∃ R2, DE ++ REST = ((DE ++ parE ρ1 (l0.take i)) ++ dupE (parV ρ1 (l0.take i)) n1 p1) ++ R2 := by
            have h1 : l0 = l0.take (i + 1) ++ l0.drop (i + 1) := (List.take_append_drop _ _).symm
            have h2 : parE ρ1 l0 = parE ρ1 (l0.take (i + 1)) ++ parE (parV ρ1 (l0.take (i + 1))) (l0.drop (i + 1)) := by
              conv => lhs; rw [h1]
              exact parE_app _ _ _
            refine ⟨parE (parV ρ1 (l0.take (i + 1))) (l0.drop (i + 1)) ++ evEs (parV ρ1 l0) [x1], ?_⟩
            rw [← HREST.out, h2, hevs]
            simp only [List.append_assoc]
          obtain ⟨-, z0, z1, z3, y1, c1, z2, -⟩ := hat
          have HEV := Lib.hid hevs
          have HNV := Lib.hid henv
          have hlt' : (i : Int) < (L : Int) := by omega
          have Qi1 : IntKind.i64.wrap ((i : Int) + 1) = (i : Int) + 1 := IntWalk.i64_in _ (by omega)
          obtain ⟨ρi, hρi⟩ : ∃ r, parV ρ1 (l0.take i) = r := ⟨_, rfl⟩
          obtain ⟨PE, hPE⟩ : ∃ r, DE ++ parE ρ1 (l0.take i) = r := ⟨_, rfl⟩
          obtain ⟨DU, hDU⟩ : ∃ r, dupE ρi n1 p1 = r := ⟨_, rfl⟩
          rw [hρi] at HEN hcat HEV HNV
          rw [hDU] at hcat HEV
          rw [hPE] at HOK hcat
          have HPE := Lib.hid hPE
          have HDU := Lib.hid hDU
          have HTOT1 := Lib.hid hcat
          clear hx hevs henv htk hρi hPE hDU hcat
          go_upto_region 10 with (fail)
          have hal : Below wr.heap.size wr (wr.alloc (.cells #[.int .i64 k1, .string ⟨n1.toArray⟩, .slice y1 l1.length c1, .int .i64 p1] 53)) := (Below.refl _ _).alloc (Nat.le_refl _) _
          have HS1 : Hid (SOk Γ w m ev PE _) := Lib.hid ⟨HOK.out.1, HOK.out.2.1.below hal, HOK.out.2.2.below hal⟩
          have HOW1 := Lib.hid (HOW.out.below hal)
          have HEN1 := Lib.hid (HEN.out.below hal)
          have HBX := Lib.hid (Box4.new wr (.int .i64 k1) (.string ⟨n1.toArray⟩) (.slice y1 l1.length c1) (.int .i64 p1))
          have hfresh : w.heap.size ≤ wr.heap.size := HOK.out.2.2.size
          obtain ⟨bx, hbx⟩ : ∃ bx, wr.heap.size = bx := ⟨_, rfl⟩
          rw [hbx] at HBX hfresh ⊢
          have HFR := Lib.hid hfresh
          clear hbx z0 z1 z2 z3 HOK hal HOW HEN hfresh
          generalize World.alloc wr (.cells #[.int .i64 k1, .string ⟨n1.toArray⟩, .slice y1 l1.length c1, .int .i64 p1] 53) = w1 at HS1 HOW1 HEN1 HBX ⊢
          have hbw : ∀ w2, Owp (MayT Γ) w1 w2 → Box4 w2 bx (.int .i64 k1) (.string ⟨n1.toArray⟩) (.slice y1 l1.length c1) (.int .i64 p1) := fun w2 ho => ho.keep (fun hm => by have := HMAY.out bx hm; have := HFR.out; omega) HBX.out
          have HBW := Lib.hid hbw
          clear hbw
          obtain ⟨x0, x1', x2, x3, xf⟩ := HBX.out.facts
          obtain ⟨F1, cap1, rfl, eg1, hc⟩ := env_any _ _ _ _ HEN1.out
          have c0 := hc 0 n1 true
          unfold TkEnd at c0
          obtain ⟨sx, hsx⟩ : ∃ x, tkA ρi 0 n1 true = x := ⟨_, rfl⟩
          obtain ⟨sy, hsy⟩ : ∃ x, tkB ρi 0 n1 true = x := ⟨_, rfl⟩
          obtain ⟨sz, hsz⟩ : ∃ x, (findE ρi 0 n1 true).isSome = x := ⟨_, rfl⟩
          rw [hsx, hsy, hsz] at c0
          obtain ⟨tb, htb⟩ : ∃ x, truthB n1 = x := ⟨_, rfl⟩
          have HDUE : Hid (DU = if sz || tb then [.bad 280 n1 p1] else []) := Lib.hid (by
            rw [← HDU.out, ← hsz, ← htb]
            rfl)
          have HTB := Lib.hid htb
          clear hc hsx hsy hsz htb
          go_wp2_with fail
          go_at_fn F1
          refine c0.mono ?_
          clear c0 x0 x1' x2 x3 xf
          rintro e w2 ⟨rfl, hb2⟩
          go_upto_region 11 with (fail)
          have hb3 : Below w1.heap.size w1 (w2.alloc (.cells #[.int .i64 sx, .bool sy] 171)) := tr hb2 ((Below.refl _ _).alloc (Nat.le_refl _) _)
          have HS3 := Lib.hid (⟨HS1.out.1, HS1.out.2.1.below hb3, HS1.out.2.2.below hb3⟩ : SOk Γ w m ev PE _)
          have HO3 : Hid (Owp (MayT Γ) w1 _) := Lib.hid (Owp.of_below hb3)
          clear hb2 hb3 HS1
          generalize World.alloc w2 (.cells #[.int .i64 sx, .bool sy] 171) = w3 at HS3 HO3 ⊢
          have HB3 := Lib.hid (HBW.out w3 HO3.out)
          obtain ⟨x0, x1', x2, x3, xf⟩ := HB3.out.facts
          have ct := truth_any n1 w3
          rw [HTB.out] at ct
          go_cut [86] from 81 to 86 (fun v wx => v = .bool (sz || tb) ∧ SOk Γ w m ev PE wx ∧ Owp (MayT Γ) w1 wx)
          case first =>
            cases sz
            · go_wp2_with (first | (go_at_call 203; (with_reducible refine ct.mono ?_); rintro e w4 ⟨rfl, rfl⟩))
              go_meet
              case rel => exact ⟨rfl, HS3.out, HO3.out⟩
            · go_wp2_with fail
              go_meet
              case rel => exact ⟨rfl, HS3.out, HO3.out⟩
          case rest =>
            obtain ⟨rfl, hs4, ho4⟩ := hcut
            have HS4 := Lib.hid hs4
            have HO4 := Lib.hid ho4
            clear hs4 ho4 HS3 HO3 HB3 x0 x1' x2 x3 xf ct
            obtain ⟨T, hT⟩ : ∃ T, (sz || tb) = T := ⟨_, rfl⟩
            rw [hT] at HDUE ⊢
            clear hT
            have HB4 := Lib.hid (HBW.out wc HO4.out)
            obtain ⟨w4, hw4⟩ : ∃ w4, wc = w4 := ⟨_, rfl⟩
            rw [hw4] at HS4 HO4 HB4 ⊢
            clear hw4
            go_upto_if 86 with (fail)
            go_cut [] from 87 to 92 (fun wx => SOk Γ w m ev (PE ++ DU) wx ∧ Owp (MayT Γ) w4 wx)
            case first =>
              obtain ⟨x0, x1', x2, x3, xf⟩ := (HB4.out).facts
              cases T
              · have HXF : Hid (DU = []) := HDUE.out
                go_wp2_with fail
                go_meet
                case rel =>
                  rw [HXF.out, List.append_nil]
                  exact ⟨HS4.out, Owp.refl _ _⟩
              · have HXF : Hid (DU = [.bad 280 n1 p1]) := HDUE.out
                obtain ⟨-, -, -, -, c4, -, -, -⟩ := HS4.out.2.1.cells
                have hw2 := HW.out.2 k1 n1 y1 l1.length c1 p1 280 w4.drew
                have egw := HW.out.1
                go_upto_region 12 with (fail)
                go_still_tail 5, (by kernel_rfl)
                change wpList _ _ _ _ _ (World.drew w4)
                have HOa : Hid (Owp (MayT Γ) w4 w4.drew) := Lib.hid (Owp.of_below (Below.refl _ _).drew)
                have HSa : Hid (SOk Γ w m ev PE w4.drew) := Lib.hid ⟨HS4.out.1, HS4.out.2.1.same fun _ _ => rfl, HS4.out.2.2.trans HOa.out⟩
                generalize World.drew w4 = wa at *
                go_wp2_with fail
                go_at_fn Γ.wf
                refine hw2.mono ?_
                clear hw2 x0 x1' x2 x3 xf c4
                rintro e wb (⟨ha, rfl, hb⟩ | ⟨ha, hb, b, hbl, rfl, hf⟩)
                · have HOb := Lib.hid (HOa.out.below hb)
                  have HOK : Hid (SOk Γ w m ev (PE ++ DU) wb) := by
                    show SOk _ _ _ _ _ _
                    rw [HXF.out]
                    exact HSa.out.trans ⟨.inl ha, (HSa.out.2.1.below hb).badly _ _ _, Owp.of_below hb⟩
                  clear ha hb
                  go_wp2_with fail
                  go_meet
                  case rel => exact ⟨HOK.out, HOb.out⟩
                · refine ⟨rfl, .inr ?_⟩
                  rw [HTOT1.out, HXF.out]
                  exact SBad.left (SBad.right HSa.out ⟨ha, 280, n1, p1, b, rfl, hbl, rfl, hf, Owp.of_below hb⟩) _
            case rest =>
              obtain ⟨hs5, ho5⟩ := hcut
              have HS5 := Lib.hid hs5
              have HO5 := Lib.hid (HO4.out.trans ho5)
              have HB5 := Lib.hid (HBW.out wc HO5.out)
              clear hs5 ho5 HS4 HO4 HB4
              obtain ⟨x0, x1', x2, x3, xf⟩ := HB5.out.facts
              have cw := with_any (MayT Γ) ρi _ 0 n1 0 false (by decide) wc (HEN1.out.owp HO5.out) HS5.out.2.1.may
              go_wp2_with fail
              refine cw.mono ?_
              clear cw x0 x1' x2 x3 xf
              rintro e w6 ⟨u6, rfl, he6, hb6⟩
              have HE6 : Hid (EnvAt w6 (MayT Γ) (parV ρ1 (l0.take (i + 1))) u6) := by
                show EnvAt _ _ _ _
                rw [HNV.out]
                exact he6
              have HS6 : Hid (SOk Γ w m ev (DE ++ parE ρ1 (l0.take (i + 1))) w6) := by
                show SOk _ _ _ _ _ _
                rw [HEV.out, ← List.append_assoc, HPE.out]
                exact ⟨HS5.out.1, HS5.out.2.1.below hb6, HS5.out.2.2.below hb6⟩
              have HO6 := Lib.hid ((HOW1.out.trans HO5.out).below hb6)
              clear he6 hb6
              go_wp2_with fail
              go_roundg (gk - 1)
              case measure => omega
              case rel => exact ⟨i + 1, rfl, by omega, HE6.out, HS6.out, HO6.out⟩
        · have hlt' : ¬ (i : Int) < (L : Int) := by omega
          have htk : l0.take i = l0 := List.take_of_length_le (by have := HLL.out; omega)
          rw [htk] at HEN HOK
          clear htk
          have HBZ := Lib.hid (HAW.out wr (HO8.out.trans HOW.out))
          have HE9 := Lib.hid (HE3.out.owp HOW.out)
          obtain ⟨x0, x1', x2, x3, xf⟩ := HBZ.out.facts
          have HOWR := HOW
          clear HBZ HE3 HS8 HOW
          obtain ⟨k1, n1, l1, p1⟩ := x1
          obtain ⟨hok1, z0, z1, z3, y1, c1, z2, hk1⟩ := (HAT1.out.mono (fun _ h _ => h) (fun b hb hl => HOK.out.2.2.block b hl hb) : NdAt wr (fun b => ¬ MayT Γ b) (.mk k1 n1 l1 p1) B (o + 4))
          have hcat : DE ++ REST = (DE ++ parE ρ1 l0) ++ evE (parV ρ1 l0) (.mk k1 n1 l1 p1) := by
            rw [← HREST.out]
            show DE ++ (parE ρ1 l0 ++ (evE (parV ρ1 l0) (.mk k1 n1 l1 p1) ++ [])) = _
            rw [List.append_nil, List.append_assoc]
          have HCAT := Lib.hid hcat
          obtain ⟨PE, hPE⟩ : ∃ r, DE ++ parE ρ1 l0 = r := ⟨_, rfl⟩
          rw [hPE] at HOK HCAT
          clear hcat hPE
          have cx := HX.out wr m _ (parV ρ1 l0) (.agg #[.int .i64 k1, .string ⟨n1.toArray⟩, .slice y1 l1.length c1, .int .i64 p1]) _ ⟨y1, c1, rfl, hk1⟩ HEN.out HOK.out.2.1 (by
            have := HL.out
            rw [HCAT.out] at this
            simp only [List.length_append] at this ⊢
            omega)
          clear hk1 hok1
          go_wp2_with fail
          refine cx.mono ?_
          clear cx x0 x1' x2 x3 xf z0 z1 z2 z3
          rintro e w2 (⟨rfl, hok⟩ | hbad)
          · have HOK2 := Lib.hid (HOK.out.trans hok)
            have HE2 := Lib.hid (HE9.out.owp hok.2.2)
            clear hok
            go_wp2_with fail
            go_ret
            refine .inl ⟨_, rfl, ?_, ?_⟩
            · show EnvAt _ _ (some (1, n, l0.length) :: ρ) _
              rw [HLL.out]
              exact HE2.out
            · rw [HCAT.out]
              exact HOK2.out
          · have hb2 : SBad Γ w (DE ++ REST) e w2 := by
              rw [HCAT.out]
              exact SBad.right HOK.out hbad
            obtain ⟨ch, rfl⟩ := hbad.pan
            exact ⟨rfl, .inr hb2⟩
set_option maxHeartbeats 4000000 in
set_option maxRecDepth 100000 in
theorem body2_step (Γ : SCtx) (hw : WrongOk Γ) (k : Int) (n : List UInt8) (k0 : Int) (n0 : List UInt8) (l0 : List Nd) (p0 : Int) (x1 : Nd) (p : Int) (hX : BlockOk Γ x1.kids) :
    BodyOk Γ 2 (fun ρ m => defE ρ 2 n p ++ (parE (none :: some (2, n, l0.length) :: ρ) l0 ++ evBs [x1] (parV (none :: some (2, n, l0.length) :: ρ) l0) (m + 1))) k n [.mk k0 n0 l0 p0, x1] p := by
  intro w m ev ρ v u hv hu h hwt hl
  dsimp only at hl ⊢
  obtain ⟨y, cv, rfl, hrow⟩ := hv
  generalize cv.val = c
  clear cv
  obtain ⟨B, o, rfl, hat, hrow1⟩ := hrow
  obtain ⟨hokb, -, -, -, y0, cv0, hy2, hk0⟩ := hat
  generalize cv0.val = c0' at hy2
  clear cv0
  obtain ⟨B', o', hBo, hat1, -⟩ := hrow1
  cases hBo
  have hA : Below w.heap.size w (w.alloc (.cells #[.int .i64 k, .string ⟨n.toArray⟩, .slice (some ⟨B, o, none⟩) 2 c, .int .i64 p] 53)) := (Below.refl _ _).alloc (Nat.le_refl _) _
  obtain ⟨F, cap, rfl, eg, -⟩ := env_any _ ρ u w hu
  obtain ⟨L, hL⟩ : ∃ L, l0.length = L := ⟨_, rfl⟩
  have HKW : Hid (∀ w1, Owp (MayT Γ) w w1 → w1.cell? ⟨B, o + 2, none⟩ = some (.slice y0 L c0')) := Lib.hid fun w1 ho => by rw [← hL]; exact ho.cell (p := ⟨B, o + 2, none⟩) hokb.ok hy2
  have H0 := Lib.hid (SOk.start h hA)
  have HB := Lib.hid (Box4.new w (.int .i64 k) (.string ⟨n.toArray⟩) (.slice (some ⟨B, o, none⟩) 2 c) (.int .i64 p))
  have HROW := Lib.hid hk0
  have HAT1 := Lib.hid hat1
  have HENV := Lib.hid hu
  have HW := Lib.hid hw
  have HX := Lib.hid hX
  have HL := Lib.hid hl
  have HA := Lib.hid hA
  have HMAY := Lib.hid h.may
  have HWT := Lib.hid hwt
  have HLL := Lib.hid hL
  have hwt2 : wtN (.mk k n [.mk k0 n0 l0 p0, x1] p) = (wtL l0 + n0.length + 1 + (wtN x1 + 0)) + n.length + 1 := by
    rw [wtN_mk]
    show (wtN (.mk k0 n0 l0 p0) + (wtN x1 + 0)) + _ + _ = _
    rw [wtN_mk]
  have HWT2 := Lib.hid hwt2
  have hLs : L < 2 ^ 40 := by
    have h1 := len_wtL l0
    omega
  have HN : Hid (n.length < 2 ^ 40) := Lib.hid (by omega)
  clear hA hu hw hX hl hwt hk0 hokb hy2 hwt2 hat1
  have hc := (env_any _ ρ _ _ (HENV.out.below HA.out))
  obtain ⟨F', cap', hf, -, hc⟩ := hc
  cases hf
  have c0 := hc 2 n true
  unfold TkEnd at c0
  obtain ⟨tx, htx⟩ : ∃ x, tkA ρ 2 n true = x := ⟨_, rfl⟩
  obtain ⟨ty, hty⟩ : ∃ x, tkB ρ 2 n true = x := ⟨_, rfl⟩
  obtain ⟨tz, htz⟩ : ∃ x, (findE ρ 2 n true).isSome = x := ⟨_, rfl⟩
  rw [htx, hty, htz] at c0
  have HTZ := Lib.hid htz
  clear hc htx hty htz h hL
  obtain ⟨fz, hfz⟩ : ∃ x, (mdB n).isSome = x := ⟨_, rfl⟩
  have HFZ := Lib.hid hfz
  obtain ⟨P0, hP0⟩ : ∃ P : List Ev, [] = P := ⟨_, rfl⟩
  obtain ⟨DE, hDE⟩ : ∃ D, defE ρ 2 n p = D := ⟨_, rfl⟩
  have HDE : Hid (DE = if fz || tz then [.bad 280 n p] else []) := Lib.hid (by
    rw [← hDE, ← HFZ.out, ← HTZ.out]
    unfold defE
    simp)
  rw [hDE] at HL ⊢
  obtain ⟨REST, hREST⟩ : ∃ D, parE (none :: some (2, n, l0.length) :: ρ) l0 ++ evBs [x1] (parV (none :: some (2, n, l0.length) :: ρ) l0) (m + 1) = D := ⟨_, rfl⟩
  have HREST := Lib.hid hREST
  rw [hREST] at HL ⊢
  have HTOT : Hid (DE ++ REST = (P0 ++ DE) ++ REST) := Lib.hid (by rw [← hP0]; rfl)
  have HP0 := Lib.hid hP0
  clear hP0 hDE hREST hfz
  go_enter Tryz.func206, Tryz.ntmps206
  go_upto_region 1 with (fail)
  obtain ⟨a, ha⟩ : ∃ a, w.heap.size = a := ⟨_, rfl⟩
  rw [ha] at HB ⊢
  have HAA := Lib.hid ha
  clear ha
  generalize World.alloc w (.cells #[.int .i64 k, .string ⟨n.toArray⟩, .slice (some ⟨B, o, none⟩) 2 c, .int .i64 p] 53) = W at HA H0 HB c0 ⊢
  have haw : ∀ w1, Owp (MayT Γ) W w1 → Box4 w1 a (.int .i64 k) (.string ⟨n.toArray⟩) (.slice (some ⟨B, o, none⟩) 2 c) (.int .i64 p) := fun w1 ho => (ho.block a HB.out.lt (fun hm => by have := HMAY.out a hm; have := HAA.out; omega)).trans HB.out
  have HAW := Lib.hid haw
  clear haw
  have hW0 : WSt Γ W m ev := by
    have := H0.out.2.1
    rwa [List.append_nil] at this
  have HW0 := Lib.hid hW0
  obtain ⟨x0, x1', x2, x3, xf⟩ := HB.out.facts
  clear hW0
  go_wp2_with fail
  go_at_fn F
  refine c0.mono ?_
  clear c0 x0 x1' x2 x3 xf
  rintro e w1 ⟨rfl, hb1⟩
  go_upto_region 2 with (fail)
  have hal : Below w1.heap.size w1 (w1.alloc (.cells #[.int .i64 tx, .bool ty] 171)) := (Below.refl _ _).alloc (Nat.le_refl _) _
  have HW2 := Lib.hid ((HW0.out.below hb1).below hal)
  have HO2 : Hid (Owp (MayT Γ) W _) := Lib.hid ((Owp.of_below hb1).below hal)
  clear hal hb1
  generalize World.alloc w1 (.cells #[.int .i64 tx, .bool ty] 171) = w2 at HW2 HO2 ⊢
  have HB2 := Lib.hid (HAW.out w2 HO2.out)
  obtain ⟨b9, hb9⟩ : ∃ b9, w2.heap.size = b9 := ⟨_, rfl⟩
  have hz : Below w2.heap.size w2 (w2.alloc (.cells #[.int .i64 0, .bool false] 171)) := (Below.refl _ _).alloc (Nat.le_refl _) _
  have HWZ := Lib.hid (HW2.out.below hz)
  have HOZ := Lib.hid (HO2.out.below hz)
  have HTZ2 := Lib.hid (Box2.new w2 (.int .i64 0) (.bool false))
  have hb9a : W.heap.size ≤ b9 := by
    have := HO2.out.size
    omega
  have HB9 := Lib.hid hb9a
  rw [hb9] at HTZ2
  have HB2Z := Lib.hid (HAW.out _ HOZ.out)
  obtain ⟨x0, x1', x2, x3, xf⟩ := HB2Z.out.facts
  obtain ⟨-, c1, c2, -, -, -, -, -⟩ := HWZ.out.cells
  obtain ⟨x0b, x1b, x2b, x3b, xfb⟩ := HB2.out.facts
  obtain ⟨-, c1b, c2b, -, -, -, -, -⟩ := HW2.out.cells
  have t0 : (w2.alloc (.cells #[.int .i64 0, .bool false] 171)).cell? ⟨b9, 0, none⟩ = some (.int .i64 0) := by simp [World.cell?, HTZ2.out]
  have t1 : (w2.alloc (.cells #[.int .i64 0, .bool false] 171)).cell? ⟨b9, 1, none⟩ = some (.bool false) := by simp [World.cell?, HTZ2.out]
  have tf : ∀ o, (w2.alloc (.cells #[.int .i64 0, .bool false] 171)).frozen? ⟨b9, o, none⟩ = false := fun o => by simp only [World.frozen?, HTZ2.out]; simp
  obtain ⟨lx, lz, hlooks⟩ := TkMap.lookAll (HW2.out.mds) n (by have := HN.out; unfold maxLen; omega)
  have hlook := hlooks w2.drew rfl
  have hlook2 := hlooks (w2.alloc (.cells #[.int .i64 0, .bool false] 171)).drew (hz.block _ HW2.out.mds.lt)
  rw [HFZ.out] at hlook hlook2
  clear hz hb9a hlooks
  go_cut [11, 12] from 26 to 37 (fun _ v wx => v = .bool fz ∧ Below w2.heap.size w2 wx)
  case first =>
    go_region
    all_goals go_wp2_with fail
    all_goals go_meet
    all_goals refine ⟨rfl, ?_⟩
    all_goals (first | exact ((Below.refl _ _).alloc (Nat.le_refl _) _).drew | exact ((Below.refl _ _).drew).alloc (Nat.le_refl _) _)
  case rest =>
  obtain ⟨rfl, hb3⟩ := hcut
  have HW3 := Lib.hid (HW2.out.below hb3)
  have HO3 := Lib.hid (HO2.out.below hb3)
  clear hlook hlook2 c1 c2 c1b c2b x0 x1' x2 x3 xf x0b x1b x2b x3b xfb t0 t1 tf hb3 HW2 HO2 HWZ HOZ HTZ2 HB2Z HB2
  obtain ⟨w3, hw3⟩ : ∃ w3, wc = w3 := ⟨_, rfl⟩
  rw [hw3] at HW3 HO3 ⊢
  clear hw3
  go_upto_region 3 with (fail)
  have HB3 := Lib.hid (HAW.out w3 HO3.out)
  have HS3 : Hid (SOk Γ w m ev P0 w3) := Lib.hid ⟨.inr (by rw [← HP0.out]; rfl), by rw [← HP0.out]; exact HW3.out.nil, (Owp.of_below HA.out).trans HO3.out⟩
  go_cut [41] from 38 to 41 (fun v wx => v = .bool (fz || tz) ∧ SOk Γ w m ev P0 wx ∧ Owp (MayT Γ) w3 wx)
  case first =>
    cases fz
    · cases tz
      · go_wp2_with fail
        go_meet
        case rel => exact ⟨rfl, HS3.out, Owp.refl _ _⟩
      · go_wp2_with fail
        go_meet
        case rel => exact ⟨rfl, HS3.out, Owp.refl _ _⟩
    · go_wp2_with fail
      go_meet
      case rel => exact ⟨rfl, HS3.out, Owp.refl _ _⟩
  case rest =>
    obtain ⟨rfl, hs4, ho4⟩ := hcut
    have HS4 := Lib.hid hs4
    have HO4 := Lib.hid (HO3.out.trans ho4)
    clear hs4 ho4 HS3 HO3 HW3 HB3
    obtain ⟨T, hT⟩ : ∃ T, (fz || tz) = T := ⟨_, rfl⟩
    rw [hT] at HDE ⊢
    clear hT
    have HB4 := Lib.hid (HAW.out wc HO4.out)
    obtain ⟨w4, hw4⟩ : ∃ w4, wc = w4 := ⟨_, rfl⟩
    rw [hw4] at HS4 HO4 HB4 ⊢
    clear hw4
    go_upto_if 41 with (fail)
    go_cut [] from 42 to 47 (fun wx => SOk Γ w m ev (P0 ++ DE) wx ∧ Owp (MayT Γ) w4 wx)
    case first =>
      obtain ⟨x0, x1', x2, x3, xf⟩ := (HB4.out).facts
      cases T
      · have HXF : Hid (DE = []) := HDE.out
        go_wp2_with fail
        go_meet
        case rel =>
          rw [HXF.out, List.append_nil]
          exact ⟨HS4.out, Owp.refl _ _⟩
      · have HXF : Hid (DE = [.bad 280 n p]) := HDE.out
        obtain ⟨-, -, -, -, c4, -, -, -⟩ := HS4.out.2.1.cells
        have hw2 := HW.out.2 k n (some ⟨B, o, none⟩) 2 c p 280 w4.drew
        have egw := HW.out.1
        go_upto_region 4 with (fail)
        go_still_tail 5, (by kernel_rfl)
        change wpList _ _ _ _ _ (World.drew w4)
        have HOa : Hid (Owp (MayT Γ) w4 w4.drew) := Lib.hid (Owp.of_below (Below.refl _ _).drew)
        have HSa : Hid (SOk Γ w m ev P0 w4.drew) := Lib.hid ⟨HS4.out.1, HS4.out.2.1.same fun _ _ => rfl, HS4.out.2.2.trans HOa.out⟩
        generalize World.drew w4 = wa at *
        go_wp2_with fail
        go_at_fn Γ.wf
        refine hw2.mono ?_
        clear hw2 x0 x1' x2 x3 xf c4
        rintro e wb (⟨ha, rfl, hb⟩ | ⟨ha, hb, b, hbl, rfl, hf⟩)
        · have HOb := Lib.hid (HOa.out.below hb)
          have HOK : Hid (SOk Γ w m ev (P0 ++ DE) wb) := by
            show SOk _ _ _ _ _ _
            rw [HXF.out]
            exact HSa.out.trans ⟨.inl ha, (HSa.out.2.1.below hb).badly _ _ _, Owp.of_below hb⟩
          clear ha hb
          go_wp2_with fail
          go_meet
          case rel => exact ⟨HOK.out, HOb.out⟩
        · refine ⟨rfl, .inr ?_⟩
          rw [HTOT.out, HXF.out]
          exact SBad.left (SBad.right HSa.out ⟨ha, 280, n, p, b, rfl, hbl, rfl, hf, Owp.of_below hb⟩) _
    case rest =>
      obtain ⟨hs5, ho5⟩ := hcut
      have HS5 : Hid (SOk Γ w m ev DE wc) := Lib.hid (by rw [← HP0.out] at hs5; exact hs5)
      have HO5 := Lib.hid (HO4.out.trans ho5)
      clear hs5 ho5 HS4 HB4 HTOT HO4
      have HB5 := Lib.hid (HAW.out wc HO5.out)
      obtain ⟨x0, x1', x2, x3, xf⟩ := HB5.out.facts
      have y2 := HKW.out wc HS5.out.2.2
      obtain ⟨w5, hw5⟩ : ∃ w5, wc = w5 := ⟨_, rfl⟩
      rw [hw5] at HS5 HO5 x0 x1' x2 x3 xf y2 ⊢
      clear HB5 hw5
      have hd5 : Below w5.heap.size w5 w5.drew := (Below.refl _ _).drew
      have HS5' := Lib.hid (⟨HS5.out.1, HS5.out.2.1.below hd5, HS5.out.2.2.below hd5⟩ : SOk Γ w m ev DE w5.drew)
      have HO5' := Lib.hid (HO5.out.below hd5)
      have cw := with_any (MayT Γ) ρ _ 2 n L true (by decide) w5.drew (HENV.out.owp HS5'.out.2.2) HS5'.out.2.1.may
      go_upto_region 5 with (fail)
      go_still_tail 13, (by kernel_rfl)
      change wpList _ _ _ _ _ (World.drew w5)
      clear hd5 HS5 HO5
      generalize World.drew w5 = w6 at *
      go_wp2_with fail
      refine cw.mono ?_
      clear cw x0 x1' x2 x3 xf y2
      rintro e w7 ⟨u3, rfl, he7, hb7⟩
      have HS7 := Lib.hid (⟨HS5'.out.1, HS5'.out.2.1.below hb7, HS5'.out.2.2.below hb7⟩ : SOk Γ w m ev DE w7)
      have HO7 := Lib.hid (HO5'.out.below hb7)
      have HE7 := Lib.hid he7
      clear he7 hb7 HS5' HO5'
      go_upto_region 6 with (fail)
      have cw := within_any (MayT Γ) _ u3 w7 HE7.out HS7.out.2.1.may
      go_wp2_with fail
      refine cw.mono ?_
      clear cw
      rintro e w8 ⟨u13, rfl, he8, hb8⟩
      have HS8 := Lib.hid (⟨HS7.out.1, HS7.out.2.1.below hb8, HS7.out.2.2.below hb8⟩ : SOk Γ w m ev DE w8)
      have HO8 := Lib.hid (HO7.out.below hb8)
      have HE8 := Lib.hid he8
      have HE3 := Lib.hid (HE7.out.below hb8)
      clear he8 hb8 HS7 HO7 HE7
      have HB8 := Lib.hid (HAW.out w8 HO8.out)
      obtain ⟨x0, x1', x2, x3, xf⟩ := HB8.out.facts
      have y2 := HKW.out w8 HS8.out.2.2
      go_upto_region 7 with (fail)
      obtain ⟨ρ1, hρ1⟩ : ∃ r, none :: some (2, n, L) :: ρ = r := ⟨_, rfl⟩
      rw [HLL.out] at HREST
      rw [hρ1] at HE8 HREST
      have HR1 := Lib.hid hρ1
      clear hρ1
      go_wp2_with fail
      go_loopg [13, 70] L (fun g u v wx => ∃ i : Nat, v = .int .i64 i ∧ i + g = L ∧ EnvAt wx (MayT Γ) (parV ρ1 (l0.take i)) u ∧ SOk Γ w m ev (DE ++ parE ρ1 (l0.take i)) wx ∧ Owp (MayT Γ) w8 wx)
      case atStart => exact ⟨0, rfl, by omega, HE8.out, by (rw [List.take_zero]; show SOk _ _ _ _ (DE ++ []) _; rw [List.append_nil]; exact HS8.out), Owp.refl _ _⟩
      case round =>
        clear x0 x1' x2 x3 xf y2 HE8 HB8
        obtain ⟨i, rfl, hi, hen, hok, how⟩ := hrel
        have HEN := Lib.hid hen
        have HOK := Lib.hid hok
        have HOW := Lib.hid how
        clear hok hen how
        by_cases hlt : i < L
        · obtain ⟨x, hx⟩ : ∃ x, l0[i]? = some x := ⟨l0[i]'(by have := HLL.out; omega), List.getElem?_eq_getElem _⟩
          obtain ⟨B1, o1, rfl, hat⟩ := (NdRow.mono (fun _ h _ => h) (fun b hb hl => HOK.out.2.2.block b hl hb) _ _ HROW.out : NdRow wr (fun b => ¬ MayT Γ b) l0 y0).at_ hx
          have htk : l0.take (i + 1) = l0.take i ++ [x] := by rw [List.take_add_one, hx]; rfl
          obtain ⟨k1, n1, l1, p1⟩ := x
          have hevs : parE ρ1 (l0.take (i + 1)) = parE ρ1 (l0.take i) ++ dupE (parV ρ1 (l0.take i)) n1 p1 := by
            rw [htk, parE_app]
            show _ ++ (dupE _ _ _ ++ []) = _
            rw [List.append_nil]
          have henv : parV ρ1 (l0.take (i + 1)) = some (0, n1, 0) :: parV ρ1 (l0.take i) := by
            rw [htk, parV_app]
            rfl
          obtain ⟨R2, hcat⟩ : ∃ R2, DE ++ REST = ((DE ++ parE ρ1 (l0.take i)) ++ dupE (parV ρ1 (l0.take i)) n1 p1) ++ R2 := by
            have h1 : l0 = l0.take (i + 1) ++ l0.drop (i + 1) := (List.take_append_drop _ _).symm
            have h2 : parE ρ1 l0 = parE ρ1 (l0.take (i + 1)) ++ parE (parV ρ1 (l0.take (i + 1))) (l0.drop (i + 1)) := by
              conv => lhs; rw [h1]
              exact parE_app _ _ _
            refine ⟨parE (parV ρ1 (l0.take (i + 1))) (l0.drop (i + 1)) ++ evBs [x1] (parV ρ1 l0) (m + 1), ?_⟩
            rw [← HREST.out, h2, hevs]
            simp only [List.append_assoc]
          obtain ⟨-, z0, z1, z3, y1, c1, z2, -⟩ := hat
          have HEV := Lib.hid hevs
          have HNV := Lib.hid henv
          have hlt' : (i : Int) < (L : Int) := by omega
          have Qi1 : IntKind.i64.wrap ((i : Int) + 1) = (i : Int) + 1 := IntWalk.i64_in _ (by omega)
          obtain ⟨ρi, hρi⟩ : ∃ r, parV ρ1 (l0.take i) = r := ⟨_, rfl⟩
          obtain ⟨PE, hPE⟩ : ∃ r, DE ++ parE ρ1 (l0.take i) = r := ⟨_, rfl⟩
          obtain ⟨DU, hDU⟩ : ∃ r, dupE ρi n1 p1 = r := ⟨_, rfl⟩
          rw [hρi] at HEN hcat HEV HNV
          rw [hDU] at hcat HEV
          rw [hPE] at HOK hcat
          have HPE := Lib.hid hPE
          have HDU := Lib.hid hDU
          have HTOT1 := Lib.hid hcat
          clear hx hevs henv htk hρi hPE hDU hcat
          go_upto_region 10 with (fail)
          have hal : Below wr.heap.size wr (wr.alloc (.cells #[.int .i64 k1, .string ⟨n1.toArray⟩, .slice y1 l1.length c1, .int .i64 p1] 53)) := (Below.refl _ _).alloc (Nat.le_refl _) _
          have HS1 : Hid (SOk Γ w m ev PE _) := Lib.hid ⟨HOK.out.1, HOK.out.2.1.below hal, HOK.out.2.2.below hal⟩
          have HOW1 := Lib.hid (HOW.out.below hal)
          have HEN1 := Lib.hid (HEN.out.below hal)
          have HBX := Lib.hid (Box4.new wr (.int .i64 k1) (.string ⟨n1.toArray⟩) (.slice y1 l1.length c1) (.int .i64 p1))
          have hfresh : w.heap.size ≤ wr.heap.size := HOK.out.2.2.size
          obtain ⟨bx, hbx⟩ : ∃ bx, wr.heap.size = bx := ⟨_, rfl⟩
          rw [hbx] at HBX hfresh ⊢
          have HFR := Lib.hid hfresh
          clear hbx z0 z1 z2 z3 HOK hal HOW HEN hfresh
          generalize World.alloc wr (.cells #[.int .i64 k1, .string ⟨n1.toArray⟩, .slice y1 l1.length c1, .int .i64 p1] 53) = w1 at HS1 HOW1 HEN1 HBX ⊢
          have hbw : ∀ w2, Owp (MayT Γ) w1 w2 → Box4 w2 bx (.int .i64 k1) (.string ⟨n1.toArray⟩) (.slice y1 l1.length c1) (.int .i64 p1) := fun w2 ho => ho.keep (fun hm => by have := HMAY.out bx hm; have := HFR.out; omega) HBX.out
          have HBW := Lib.hid hbw
          clear hbw
          obtain ⟨x0, x1', x2, x3, xf⟩ := HBX.out.facts
          obtain ⟨F1, cap1, rfl, eg1, hc⟩ := env_any _ _ _ _ HEN1.out
          have c0 := hc 0 n1 true
          unfold TkEnd at c0
          obtain ⟨sx, hsx⟩ : ∃ x, tkA ρi 0 n1 true = x := ⟨_, rfl⟩
          obtain ⟨sy, hsy⟩ : ∃ x, tkB ρi 0 n1 true = x := ⟨_, rfl⟩
          obtain ⟨sz, hsz⟩ : ∃ x, (findE ρi 0 n1 true).isSome = x := ⟨_, rfl⟩
          rw [hsx, hsy, hsz] at c0
          obtain ⟨tb, htb⟩ : ∃ x, truthB n1 = x := ⟨_, rfl⟩
          have HDUE : Hid (DU = if sz || tb then [.bad 280 n1 p1] else []) := Lib.hid (by
            rw [← HDU.out, ← hsz, ← htb]
            rfl)
          have HTB := Lib.hid htb
          clear hc hsx hsy hsz htb
          go_wp2_with fail
          go_at_fn F1
          refine c0.mono ?_
          clear c0 x0 x1' x2 x3 xf
          rintro e w2 ⟨rfl, hb2⟩
          go_upto_region 11 with (fail)
          have hb3 : Below w1.heap.size w1 (w2.alloc (.cells #[.int .i64 sx, .bool sy] 171)) := tr hb2 ((Below.refl _ _).alloc (Nat.le_refl _) _)
          have HS3 := Lib.hid (⟨HS1.out.1, HS1.out.2.1.below hb3, HS1.out.2.2.below hb3⟩ : SOk Γ w m ev PE _)
          have HO3 : Hid (Owp (MayT Γ) w1 _) := Lib.hid (Owp.of_below hb3)
          clear hb2 hb3 HS1
          generalize World.alloc w2 (.cells #[.int .i64 sx, .bool sy] 171) = w3 at HS3 HO3 ⊢
          have HB3 := Lib.hid (HBW.out w3 HO3.out)
          obtain ⟨x0, x1', x2, x3, xf⟩ := HB3.out.facts
          have ct := truth_any n1 w3
          rw [HTB.out] at ct
          go_cut [86] from 81 to 86 (fun v wx => v = .bool (sz || tb) ∧ SOk Γ w m ev PE wx ∧ Owp (MayT Γ) w1 wx)
          case first =>
            cases sz
            · go_wp2_with (first | (go_at_call 203; (with_reducible refine ct.mono ?_); rintro e w4 ⟨rfl, rfl⟩))
              go_meet
              case rel => exact ⟨rfl, HS3.out, HO3.out⟩
            · go_wp2_with fail
              go_meet
              case rel => exact ⟨rfl, HS3.out, HO3.out⟩
          case rest =>
            obtain ⟨rfl, hs4, ho4⟩ := hcut
            have HS4 := Lib.hid hs4
            have HO4 := Lib.hid ho4
            clear hs4 ho4 HS3 HO3 HB3 x0 x1' x2 x3 xf ct
            obtain ⟨T, hT⟩ : ∃ T, (sz || tb) = T := ⟨_, rfl⟩
            rw [hT] at HDUE ⊢
            clear hT
            have HB4 := Lib.hid (HBW.out wc HO4.out)
            obtain ⟨w4, hw4⟩ : ∃ w4, wc = w4 := ⟨_, rfl⟩
            rw [hw4] at HS4 HO4 HB4 ⊢
            clear hw4
            go_upto_if 86 with (fail)
            go_cut [] from 87 to 92 (fun wx => SOk Γ w m ev (PE ++ DU) wx ∧ Owp (MayT Γ) w4 wx)
            case first =>
              obtain ⟨x0, x1', x2, x3, xf⟩ := (HB4.out).facts
              cases T
              · have HXF : Hid (DU = []) := HDUE.out
                go_wp2_with fail
                go_meet
                case rel =>
                  rw [HXF.out, List.append_nil]
                  exact ⟨HS4.out, Owp.refl _ _⟩
              · have HXF : Hid (DU = [.bad 280 n1 p1]) := HDUE.out
                obtain ⟨-, -, -, -, c4, -, -, -⟩ := HS4.out.2.1.cells
                have hw2 := HW.out.2 k1 n1 y1 l1.length c1 p1 280 w4.drew
                have egw := HW.out.1
                go_upto_region 12 with (fail)
                go_still_tail 5, (by kernel_rfl)
                change wpList _ _ _ _ _ (World.drew w4)
                have HOa : Hid (Owp (MayT Γ) w4 w4.drew) := Lib.hid (Owp.of_below (Below.refl _ _).drew)
                have HSa : Hid (SOk Γ w m ev PE w4.drew) := Lib.hid ⟨HS4.out.1, HS4.out.2.1.same fun _ _ => rfl, HS4.out.2.2.trans HOa.out⟩
                generalize World.drew w4 = wa at *
                go_wp2_with fail
                go_at_fn Γ.wf
                refine hw2.mono ?_
                clear hw2 x0 x1' x2 x3 xf c4
                rintro e wb (⟨ha, rfl, hb⟩ | ⟨ha, hb, b, hbl, rfl, hf⟩)
                · have HOb := Lib.hid (HOa.out.below hb)
                  have HOK : Hid (SOk Γ w m ev (PE ++ DU) wb) := by
                    show SOk _ _ _ _ _ _
                    rw [HXF.out]
                    exact HSa.out.trans ⟨.inl ha, (HSa.out.2.1.below hb).badly _ _ _, Owp.of_below hb⟩
                  clear ha hb
                  go_wp2_with fail
                  go_meet
                  case rel => exact ⟨HOK.out, HOb.out⟩
                · refine ⟨rfl, .inr ?_⟩
                  rw [HTOT1.out, HXF.out]
                  exact SBad.left (SBad.right HSa.out ⟨ha, 280, n1, p1, b, rfl, hbl, rfl, hf, Owp.of_below hb⟩) _
            case rest =>
              obtain ⟨hs5, ho5⟩ := hcut
              have HS5 := Lib.hid hs5
              have HO5 := Lib.hid (HO4.out.trans ho5)
              have HB5 := Lib.hid (HBW.out wc HO5.out)
              clear hs5 ho5 HS4 HO4 HB4
              obtain ⟨x0, x1', x2, x3, xf⟩ := HB5.out.facts
              have cw := with_any (MayT Γ) ρi _ 0 n1 0 false (by decide) wc (HEN1.out.owp HO5.out) HS5.out.2.1.may
              go_wp2_with fail
              refine cw.mono ?_
              clear cw x0 x1' x2 x3 xf
              rintro e w6 ⟨u6, rfl, he6, hb6⟩
              have HE6 : Hid (EnvAt w6 (MayT Γ) (parV ρ1 (l0.take (i + 1))) u6) := by
                show EnvAt _ _ _ _
                rw [HNV.out]
                exact he6
              have HS6 : Hid (SOk Γ w m ev (DE ++ parE ρ1 (l0.take (i + 1))) w6) := by
                show SOk _ _ _ _ _ _
                rw [HEV.out, ← List.append_assoc, HPE.out]
                exact ⟨HS5.out.1, HS5.out.2.1.below hb6, HS5.out.2.2.below hb6⟩
              have HO6 := Lib.hid ((HOW1.out.trans HO5.out).below hb6)
              clear he6 hb6
              go_wp2_with fail
              go_roundg (gk - 1)
              case measure => omega
              case rel => exact ⟨i + 1, rfl, by omega, HE6.out, HS6.out, HO6.out⟩
        · have hlt' : ¬ (i : Int) < (L : Int) := by omega
          have htk : l0.take i = l0 := List.take_of_length_le (by have := HLL.out; omega)
          rw [htk] at HEN HOK
          clear htk
          have HBZ := Lib.hid (HAW.out wr (HO8.out.trans HOW.out))
          have HE9 := Lib.hid (HE3.out.owp HOW.out)
          obtain ⟨x0, x1', x2, x3, xf⟩ := HBZ.out.facts
          have HOWR := HOW
          clear HBZ HE3 HS8 HOW
          obtain ⟨k1, n1, l1, p1⟩ := x1
          obtain ⟨hok1, z0, z1, z3, y1, c1, z2, hk1⟩ := (HAT1.out.mono (fun _ h _ => h) (fun b hb hl => HOK.out.2.2.block b hl hb) : NdAt wr (fun b => ¬ MayT Γ b) (.mk k1 n1 l1 p1) B (o + 4))
          have hcat : DE ++ REST = (DE ++ parE ρ1 l0) ++ evSs l1 (none :: parV ρ1 l0) (m + 1) := by
            rw [← HREST.out]
            show DE ++ (parE ρ1 l0 ++ (evSs l1 (none :: parV ρ1 l0) (m + 1) ++ [])) = _
            rw [List.append_nil, List.append_assoc]
          have HCAT := Lib.hid hcat
          obtain ⟨PE, hPE⟩ : ∃ r, DE ++ parE ρ1 l0 = r := ⟨_, rfl⟩
          rw [hPE] at HOK HCAT
          clear hcat hPE
          have EA : m < 2 ^ 40 := by
            have := HWT.out
            omega
          have Qm1 : IntKind.i64.wrap ((m : Int) + 1) = (m : Int) + 1 := IntWalk.i64_in _ (by omega)
          obtain ⟨-, -, -, c3, -, -, -, cf⟩ := HOK.out.2.1.cells
          have HZ2 := Lib.hid z2
          have HK1 := Lib.hid hk1
          have HOK1 := Lib.hid hok1.ok
          clear z0 z1 z2 z3 hk1 hok1
          go_upto_region 19 with (fail)
          have HS9 := Lib.hid (⟨HOK.out.1, HOK.out.2.1.setIn (m + 1), HOK.out.2.2.trans (Owp.setIn _ _)⟩ : SOk Γ w (m + 1) ev PE (wr.setCell ⟨Γ.wb, 3, none⟩ (.int .i64 ((m : Int) + 1))))
          have HO9 : Hid (Owp (MayT Γ) wr (wr.setCell ⟨Γ.wb, 3, none⟩ (.int .i64 ((m : Int) + 1)))) := Lib.hid (Owp.setIn _ _)
          have HB9 := Lib.hid (HAW.out _ (HO8.out.trans (HOWR.out.trans HO9.out)))
          clear c3 cf x0 x1' x2 x3 xf HOK
          generalize (wr.setCell ⟨Γ.wb, 3, none⟩ (.int .i64 ((m : Int) + 1))) = w9 at HS9 HO9 HB9 ⊢
          obtain ⟨x0, x1', x2, x3, xf⟩ := HB9.out.facts
          have z2 := HO9.out.cell (p := ⟨B, o + 4 + 2, none⟩) HOK1.out HZ2.out
          have cb := HX.out w9 (m + 1) _ (parV ρ1 l0) y1 c1 _ (NdRow.mono (fun _ h _ => h) (fun b hb hl => HO9.out.block b hl hb) _ _ HK1.out) (HEN.out.owp HO9.out) HS9.out.2.1 (by
            have h1 := HWT.out
            have h2 := HWT2.out
            rw [wtN_mk k1] at h2
            show m + 1 + wtL l1 < _
            omega) (by
            have := HL.out
            rw [HCAT.out] at this
            simp only [List.length_append] at this ⊢
            show _ + (evSs l1 (none :: parV ρ1 l0) (m + 1)).length < _
            omega)
          rw [show (Nd.mk k1 n1 l1 p1).kids = l1 from rfl] at cb
          go_wp2_with fail
          refine cb.mono ?_
          clear cb x0 x1' x2 x3 xf z2
          rintro e w10 (⟨rfl, hok⟩ | hbad)
          · have AA := Lib.hid (SOk.trans HS9.out hok)
            have BA := Lib.hid (HO9.out.trans hok.2.2)
            obtain ⟨-, -, -, c3, -, -, -, cf⟩ := hok.2.1.cells
            have c3' : w10.cell? ⟨Γ.wb, 3, none⟩ = some (.int .i64 ((m : Int) + 1)) := c3
            have Qm2 : IntKind.i64.wrap ((m : Int) + 1 - 1) = (m : Int) := (IntWalk.i64_in _ (by omega)).trans (by omega)
            have Qm3 : IntKind.i64.wrap (m : Int) = (m : Int) := IntWalk.i64_in _ (by omega)
            clear hok c3 Qm1
            go_upto_region 21 with (fail)
            have CA := Lib.hid (⟨AA.out.1, AA.out.2.1.setIn m, AA.out.2.2.trans (Owp.setIn _ _)⟩ : SOk Γ w m ev _ (w10.setCell ⟨Γ.wb, 3, none⟩ (.int .i64 (m : Int))))
            have DA := Lib.hid (HE9.out.owp (BA.out.trans (Owp.setIn w10 (.int .i64 (m : Int)))))
            go_wp2_with fail
            go_ret
            refine .inl ⟨_, rfl, ?_, ?_⟩
            · show EnvAt _ _ (some (2, n, l0.length) :: ρ) _
              rw [HLL.out]
              exact DA.out
            · rw [HCAT.out]
              exact CA.out
          · have hb2 : SBad Γ w (DE ++ REST) e w10 := by
              rw [HCAT.out]
              exact SBad.right HS9.out hbad
            obtain ⟨ch, rfl⟩ := hbad.pan
            exact ⟨rfl, .inr hb2⟩
end Go.Proofs.YtpbkeamjdolpgaaGreatDoor
namespace Go.Proofs.YtpbkeamjdolpgaaGreatDoor
open Go.RowKit Go.Lib
open Go.Maps (Keyed)

set_option maxHeartbeats 4000000 in
set_option maxRecDepth 100000 in
theorem stmt2_step (Γ : SCtx) (n : List UInt8) (kids : List Nd) (p : Int) (hb : BodyOk Γ 2 (fun ρ m => evS (.mk 2 n kids p) ρ m) 2 n kids p) : StmtOk Γ (.mk 2 n kids p) := by
  intro w m ev ρ v u hv hu h hwt hl
  obtain ⟨y, c, rfl, hrow⟩ := hv
  have hA : Below w.heap.size w (w.alloc (.cells #[.int .i64 2, .string ⟨n.toArray⟩, .slice y kids.length c, .int .i64 p] 53)) := (Below.refl _ _).alloc (Nat.le_refl _) _
  have HB := Lib.hid (Box4.new w (.int .i64 2) (.string ⟨n.toArray⟩) (.slice y kids.length c) (.int .i64 p))
  have cb := hb _ m ev ρ (.agg #[.int .i64 2, .string ⟨n.toArray⟩, .slice y kids.length c, .int .i64 p]) u ⟨y, c, rfl, hrow.below hA⟩ (hu.below hA) (h.below hA) hwt hl
  have H0 := Lib.hid (SOk.start h hA)
  have HEE : Hid (envS ρ (.mk 2 n kids p) = some (2, n, argc kids) :: ρ) := Lib.hid (by simp [envS])
  clear hb hrow hu h hwt hl hA
  go_enter Tryz.func176, Tryz.ntmps176
  go_upto_region 1 with (fail)
  obtain ⟨a, ha⟩ : ∃ a, w.heap.size = a := ⟨_, rfl⟩
  rw [ha] at HB ⊢
  have HAA := Lib.hid ha
  clear ha
  generalize World.alloc w (.cells #[.int .i64 2, .string ⟨n.toArray⟩, .slice y kids.length c, .int .i64 p] 53) = W at H0 HB cb ⊢
  obtain ⟨x0, x1', x2, x3, xf⟩ := HB.out.facts
  go_wp2_with fail
  refine cb.mono ?_
  clear cb x0 x1' x2 x3 xf
  rintro e w2 (⟨v2, rfl, he, hok⟩ | hbad)
  · have HOK : Hid (SOk Γ w m ev (evS (.mk 2 n kids p) ρ m) w2) := Lib.hid (SOk.trans (e1 := []) H0.out (by rw [List.append_nil]; exact hok))
    have HE := Lib.hid he
    clear hok he
    go_wp2_with fail
    go_ret
    refine .inl ⟨_, rfl, ?_, HOK.out⟩
    rw [HEE.out]
    exact HE.out
  · have hb2 : SBad Γ w (evS (.mk 2 n kids p) ρ m) e w2 := SBad.right (e1 := []) H0.out hbad
    obtain ⟨ch, rfl⟩ := hbad.pan
    exact ⟨rfl, .inr hb2⟩
set_option maxHeartbeats 4000000 in
set_option maxRecDepth 100000 in
theorem stmt3_step (Γ : SCtx) (n : List UInt8) (kids : List Nd) (p : Int) (hb : BodyOk Γ 1 (fun ρ m => evS (.mk 3 n kids p) ρ m) 3 n kids p) : StmtOk Γ (.mk 3 n kids p) := by
  intro w m ev ρ v u hv hu h hwt hl
  obtain ⟨y, c, rfl, hrow⟩ := hv
  have hA : Below w.heap.size w (w.alloc (.cells #[.int .i64 3, .string ⟨n.toArray⟩, .slice y kids.length c, .int .i64 p] 53)) := (Below.refl _ _).alloc (Nat.le_refl _) _
  have HB := Lib.hid (Box4.new w (.int .i64 3) (.string ⟨n.toArray⟩) (.slice y kids.length c) (.int .i64 p))
  have cb := hb _ m ev ρ (.agg #[.int .i64 3, .string ⟨n.toArray⟩, .slice y kids.length c, .int .i64 p]) u ⟨y, c, rfl, hrow.below hA⟩ (hu.below hA) (h.below hA) hwt hl
  have H0 := Lib.hid (SOk.start h hA)
  have HEE : Hid (envS ρ (.mk 3 n kids p) = some (1, n, argc kids) :: ρ) := Lib.hid (by simp [envS])
  clear hb hrow hu h hwt hl hA
  go_enter Tryz.func176, Tryz.ntmps176
  go_upto_region 1 with (fail)
  obtain ⟨a, ha⟩ : ∃ a, w.heap.size = a := ⟨_, rfl⟩
  rw [ha] at HB ⊢
  have HAA := Lib.hid ha
  clear ha
  generalize World.alloc w (.cells #[.int .i64 3, .string ⟨n.toArray⟩, .slice y kids.length c, .int .i64 p] 53) = W at H0 HB cb ⊢
  obtain ⟨x0, x1', x2, x3, xf⟩ := HB.out.facts
  go_wp2_with fail
  refine cb.mono ?_
  clear cb x0 x1' x2 x3 xf
  rintro e w2 (⟨v2, rfl, he, hok⟩ | hbad)
  · have HOK : Hid (SOk Γ w m ev (evS (.mk 3 n kids p) ρ m) w2) := Lib.hid (SOk.trans (e1 := []) H0.out (by rw [List.append_nil]; exact hok))
    have HE := Lib.hid he
    clear hok he
    go_wp2_with fail
    go_ret
    refine .inl ⟨_, rfl, ?_, HOK.out⟩
    rw [HEE.out]
    exact HE.out
  · have hb2 : SBad Γ w (evS (.mk 3 n kids p) ρ m) e w2 := SBad.right (e1 := []) H0.out hbad
    obtain ⟨ch, rfl⟩ := hbad.pan
    exact ⟨rfl, .inr hb2⟩
set_option maxHeartbeats 4000000 in
set_option maxRecDepth 100000 in
theorem stmt7_step (Γ : SCtx) (n : List UInt8) (kids : List Nd) (p : Int) (hb : CallOk Γ 7 n kids p) : StmtOk Γ (.mk 7 n kids p) := by
  intro w m ev ρ v u hv hu h hwt hl
  obtain ⟨y, c, rfl, hrow⟩ := hv
  have hA : Below w.heap.size w (w.alloc (.cells #[.int .i64 7, .string ⟨n.toArray⟩, .slice y kids.length c, .int .i64 p] 53)) := (Below.refl _ _).alloc (Nat.le_refl _) _
  have HB := Lib.hid (Box4.new w (.int .i64 7) (.string ⟨n.toArray⟩) (.slice y kids.length c) (.int .i64 p))
  have hEV : evS (.mk 7 n kids p) ρ m = callE ρ m n kids p ++ (evEs ρ (bodyOf kids) ++ evT kids ρ m) := by
    rw [evS, if_neg (by decide), if_neg (by decide), if_neg (by decide), if_neg (by decide), if_neg (by decide), List.append_assoc]
  have hEE : envS ρ (.mk 7 n kids p) = ρ := by simp [envS]
  rw [hEV] at hl ⊢
  rw [hEE]
  have cb := hb _ m ev ρ (.agg #[.int .i64 7, .string ⟨n.toArray⟩, .slice y kids.length c, .int .i64 p]) u ⟨y, c, rfl, hrow.below hA⟩ (hu.below hA) (h.below hA) (by rw [wtN_mk] at hwt; omega) hl
  have H0 := Lib.hid (SOk.start h hA)
  have HU := Lib.hid (hu.below hA)
  clear hb hrow hu h hwt hl hA hEV hEE
  go_enter Tryz.func176, Tryz.ntmps176
  go_upto_region 1 with (fail)
  obtain ⟨a, ha⟩ : ∃ a, w.heap.size = a := ⟨_, rfl⟩
  rw [ha] at HB ⊢
  have HAA := Lib.hid ha
  clear ha
  generalize World.alloc w (.cells #[.int .i64 7, .string ⟨n.toArray⟩, .slice y kids.length c, .int .i64 p] 53) = W at H0 HB cb HU ⊢
  obtain ⟨x0, x1', x2, x3, xf⟩ := HB.out.facts
  go_wp2_with fail
  refine cb.mono ?_
  clear cb x0 x1' x2 x3 xf
  rintro e w2 (⟨rfl, hok⟩ | hbad)
  · have HOK : Hid (SOk Γ w m ev (callE ρ m n kids p ++ (evEs ρ (bodyOf kids) ++ evT kids ρ m)) w2) := Lib.hid (SOk.trans (e1 := []) H0.out (by rw [List.append_nil]; exact hok))
    have HE := Lib.hid (HU.out.owp hok.2.2)
    clear hok
    go_wp2_with fail
    go_ret
    exact .inl ⟨_, rfl, HE.out, HOK.out⟩
  · have hb2 : SBad Γ w (callE ρ m n kids p ++ (evEs ρ (bodyOf kids) ++ evT kids ρ m)) e w2 := SBad.right (e1 := []) H0.out hbad
    obtain ⟨ch, rfl⟩ := hbad.pan
    exact ⟨rfl, .inr hb2⟩
set_option maxHeartbeats 4000000 in
set_option maxRecDepth 100000 in
theorem stmt1_step (Γ : SCtx) (hw : WrongOk Γ) (n : List UInt8) (x : Nd) (p : Int) (hX : ExprOk Γ x) : StmtOk Γ (.mk 1 n [x] p) := by
  intro w m ev ρ v u hv hu h hwt hl
  obtain ⟨y, c, rfl, hrow⟩ := hv
  obtain ⟨B, o, rfl, hat, -⟩ := hrow
  have hEV : evS (.mk 1 n [x] p) ρ m = dupE ρ n p ++ evE ρ x := by
    rw [evS, if_pos rfl]
    show _ ++ (evE ρ x ++ []) = _
    rw [List.append_nil]
  have hEE : envS ρ (.mk 1 n [x] p) = some (0, n, 0) :: ρ := by simp [envS]
  rw [hEV] at hl ⊢
  rw [hEE]
  have hA : Below w.heap.size w (w.alloc (.cells #[.int .i64 1, .string ⟨n.toArray⟩, .slice (some ⟨B, o, none⟩) 1 c, .int .i64 p] 53)) := (Below.refl _ _).alloc (Nat.le_refl _) _
  obtain ⟨F, cap, rfl, eg, -⟩ := env_any _ ρ u w hu
  have HB := Lib.hid (Box4.new w (.int .i64 1) (.string ⟨n.toArray⟩) (.slice (some ⟨B, o, none⟩) 1 c) (.int .i64 p))
  have H0 := Lib.hid (SOk.start h hA)
  have HENV := Lib.hid hu
  have HAT := Lib.hid hat
  have HW := Lib.hid hw
  have HX := Lib.hid hX
  have HL := Lib.hid hl
  have HA := Lib.hid hA
  have HMAY := Lib.hid h.may
  obtain ⟨F', cap', hf, -, hc⟩ := env_any _ ρ _ _ (hu.below hA)
  cases hf
  have c0 := hc 0 n true
  unfold TkEnd at c0
  obtain ⟨tx, htx⟩ : ∃ x, tkA ρ 0 n true = x := ⟨_, rfl⟩
  obtain ⟨ty, hty⟩ : ∃ x, tkB ρ 0 n true = x := ⟨_, rfl⟩
  obtain ⟨tz, htz⟩ : ∃ x, (findE ρ 0 n true).isSome = x := ⟨_, rfl⟩
  rw [htx, hty, htz] at c0
  obtain ⟨tb, htb⟩ : ∃ x, truthB n = x := ⟨_, rfl⟩
  obtain ⟨DU, hDU⟩ : ∃ r, dupE ρ n p = r := ⟨_, rfl⟩
  have HDU : Hid (DU = if tz || tb then [.bad 280 n p] else []) := Lib.hid (by
    rw [← hDU, ← htz, ← htb]
    rfl)
  have HTB := Lib.hid htb
  rw [hDU] at HL ⊢
  obtain ⟨P0, hP0⟩ : ∃ P : List Ev, [] = P := ⟨_, rfl⟩
  rw [hP0] at H0
  have HP0 := Lib.hid hP0
  have HTOT : Hid (DU ++ evE ρ x = (P0 ++ DU) ++ evE ρ x) := Lib.hid (by rw [← hP0]; rfl)
  clear hA hat hu hw hX hl hwt h hc htx hty htz htb hDU hP0 hEV hEE
  go_enter Tryz.func176, Tryz.ntmps176
  go_upto_region 1 with (fail)
  obtain ⟨a, ha⟩ : ∃ a, w.heap.size = a := ⟨_, rfl⟩
  rw [ha] at HB ⊢
  have HAA := Lib.hid ha
  clear ha
  generalize World.alloc w (.cells #[.int .i64 1, .string ⟨n.toArray⟩, .slice (some ⟨B, o, none⟩) 1 c, .int .i64 p] 53) = W at HA H0 HB c0 ⊢
  have haw : ∀ w1, Owp (MayT Γ) W w1 → Box4 w1 a (.int .i64 1) (.string ⟨n.toArray⟩) (.slice (some ⟨B, o, none⟩) 1 c) (.int .i64 p) := fun w1 ho => (ho.block a HB.out.lt (fun hm => by have := HMAY.out a hm; have := HAA.out; omega)).trans HB.out
  have HAW := Lib.hid haw
  clear haw
  obtain ⟨x0, x1', x2, x3, xf⟩ := HB.out.facts
  go_wp2_with fail
  go_at_fn F
  refine c0.mono ?_
  clear c0 x0 x1' x2 x3 xf
  rintro e w1 ⟨rfl, hb1⟩
  go_upto_region 5 with (fail)
  have hb2 : Below W.heap.size W (w1.alloc (.cells #[.int .i64 tx, .bool ty] 171)) := tr hb1 ((Below.refl _ _).alloc (Nat.le_refl _) _)
  have HS3 := Lib.hid (⟨H0.out.1, H0.out.2.1.below hb2, H0.out.2.2.below hb2⟩ : SOk Γ w m ev P0 _)
  have HO3 : Hid (Owp (MayT Γ) W _) := Lib.hid (Owp.of_below hb2)
  clear hb1 hb2
  generalize World.alloc w1 (.cells #[.int .i64 tx, .bool ty] 171) = w3 at HS3 HO3 ⊢
  have HB3 := Lib.hid (HAW.out w3 HO3.out)
  obtain ⟨x0, x1', x2, x3, xf⟩ := HB3.out.facts
  have ct := truth_any n w3
  rw [HTB.out] at ct
  go_cut [31] from 26 to 31 (fun v wx => v = .bool (tz || tb) ∧ SOk Γ w m ev P0 wx ∧ Owp (MayT Γ) W wx)
  case first =>
    cases tz
    · go_wp2_with (first | (go_at_call 203; (with_reducible refine ct.mono ?_); rintro e w4 ⟨rfl, rfl⟩))
      go_meet
      case rel => exact ⟨rfl, HS3.out, HO3.out⟩
    · go_wp2_with fail
      go_meet
      case rel => exact ⟨rfl, HS3.out, HO3.out⟩
  case rest =>
    obtain ⟨rfl, hs4, ho4⟩ := hcut
    have HS4 := Lib.hid hs4
    have HO4 := Lib.hid ho4
    clear hs4 ho4 HS3 HO3 HB3 x0 x1' x2 x3 xf ct
    obtain ⟨T, hT⟩ : ∃ T, (tz || tb) = T := ⟨_, rfl⟩
    rw [hT] at HDU ⊢
    clear hT
    have HB4 := Lib.hid (HAW.out wc HO4.out)
    obtain ⟨w4, hw4⟩ : ∃ w4, wc = w4 := ⟨_, rfl⟩
    rw [hw4] at HS4 HO4 HB4 ⊢
    clear hw4
    go_upto_if 31 with (fail)
    go_cut [] from 32 to 37 (fun wx => SOk Γ w m ev (P0 ++ DU) wx ∧ Owp (MayT Γ) w4 wx)
    case first =>
      obtain ⟨x0, x1', x2, x3, xf⟩ := (HB4.out).facts
      cases T
      · have HXF : Hid (DU = []) := HDU.out
        go_wp2_with fail
        go_meet
        case rel =>
          rw [HXF.out, List.append_nil]
          exact ⟨HS4.out, Owp.refl _ _⟩
      · have HXF : Hid (DU = [.bad 280 n p]) := HDU.out
        obtain ⟨-, -, -, -, c4, -, -, -⟩ := HS4.out.2.1.cells
        have hw2 := HW.out.2 1 n (some ⟨B, o, none⟩) 1 c p 280 w4.drew
        have egw := HW.out.1
        go_upto_region 6 with (fail)
        go_still_tail 5, (by kernel_rfl)
        change wpList _ _ _ _ _ (World.drew w4)
        have HOa : Hid (Owp (MayT Γ) w4 w4.drew) := Lib.hid (Owp.of_below (Below.refl _ _).drew)
        have HSa : Hid (SOk Γ w m ev P0 w4.drew) := Lib.hid ⟨HS4.out.1, HS4.out.2.1.same fun _ _ => rfl, HS4.out.2.2.trans HOa.out⟩
        generalize World.drew w4 = wa at *
        go_wp2_with fail
        go_at_fn Γ.wf
        refine hw2.mono ?_
        clear hw2 x0 x1' x2 x3 xf c4
        rintro e wb (⟨ha, rfl, hb⟩ | ⟨ha, hb, b, hbl, rfl, hf⟩)
        · have HOb := Lib.hid (HOa.out.below hb)
          have HOK : Hid (SOk Γ w m ev (P0 ++ DU) wb) := by
            show SOk _ _ _ _ _ _
            rw [HXF.out]
            exact HSa.out.trans ⟨.inl ha, (HSa.out.2.1.below hb).badly _ _ _, Owp.of_below hb⟩
          clear ha hb
          go_wp2_with fail
          go_meet
          case rel => exact ⟨HOK.out, HOb.out⟩
        · refine ⟨rfl, .inr ?_⟩
          rw [HTOT.out, HXF.out]
          exact SBad.left (SBad.right HSa.out ⟨ha, 280, n, p, b, rfl, hbl, rfl, hf, Owp.of_below hb⟩) _
    case rest =>
      obtain ⟨hs5, ho5⟩ := hcut
      have HS5 : Hid (SOk Γ w m ev DU wc) := Lib.hid (by rw [← HP0.out] at hs5; exact hs5)
      have HO5 := Lib.hid (HO4.out.trans ho5)
      clear hs5 ho5 HS4 HB4 HTOT HO4
      have HB5 := Lib.hid (HAW.out wc HO5.out)
      obtain ⟨x0, x1', x2, x3, xf⟩ := HB5.out.facts
      obtain ⟨k1, n1, l1, p1⟩ := x
      obtain ⟨hok1, z0, z1, z3, y1, c1, z2, hk1⟩ := (HAT.out.mono (fun _ h _ => h) (fun b hb hl => HS5.out.2.2.block b hl hb) : NdAt wc (fun b => ¬ MayT Γ b) (.mk k1 n1 l1 p1) B o)
      have cx := HX.out wc m _ ρ (.agg #[.int .i64 k1, .string ⟨n1.toArray⟩, .slice y1 l1.length c1, .int .i64 p1]) _ ⟨y1, c1, rfl, hk1⟩ (HENV.out.owp HS5.out.2.2) HS5.out.2.1 (by
        have := HL.out
        simp only [List.length_append] at this ⊢
        omega)
      clear hok1 hk1
      go_wp2_with fail
      refine cx.mono ?_
      clear cx x0 x1' x2 x3 xf z0 z1 z2 z3
      rintro e w6 (⟨rfl, hok⟩ | hbad)
      · have HOK := Lib.hid (SOk.trans HS5.out hok)
        have HO6 := Lib.hid (HO5.out.trans hok.2.2)
        clear hok
        have HB6 := Lib.hid (HAW.out w6 HO6.out)
        obtain ⟨x0, x1', x2, x3, xf⟩ := HB6.out.facts
        have cw := with_any (MayT Γ) ρ _ 0 n 0 false (by decide) w6 (HENV.out.owp HOK.out.2.2) HOK.out.2.1.may
        go_wp2_with fail
        refine cw.mono ?_
        clear cw x0 x1' x2 x3 xf
        rintro e w7 ⟨u7, rfl, he7, hb7⟩
        have HE7 := Lib.hid he7
        have HS7 := Lib.hid (⟨HOK.out.1, HOK.out.2.1.below hb7, HOK.out.2.2.below hb7⟩ : SOk Γ w m ev _ w7)
        clear he7 hb7
        go_wp2_with fail
        go_ret
        exact .inl ⟨_, rfl, HE7.out, HS7.out⟩
      · have hb2 : SBad Γ w (DU ++ evE ρ (.mk k1 n1 l1 p1)) e w6 := SBad.right HS5.out hbad
        obtain ⟨ch, rfl⟩ := hbad.pan
        exact ⟨rfl, .inr hb2⟩
end Go.Proofs.YtpbkeamjdolpgaaGreatDoor
namespace Go.Proofs.YtpbkeamjdolpgaaGreatDoor
open Go.RowKit Go.Lib
open Go.Maps (Keyed)

theorem evBs_app : ∀ (a b : List Nd) (ρ : Env) (m : Nat), evBs (a ++ b) ρ m = evBs a ρ m ++ evBs b ρ m
  | [], _, _, _ => rfl
  | x :: r, b, ρ, m => by
    rw [List.cons_append, evBs, evBs, evBs_app r b, List.append_assoc]
set_option maxHeartbeats 4000000 in
set_option maxRecDepth 100000 in
theorem stmt5_step (Γ : SCtx) (hw : WrongOk Γ) (n : List UInt8) (x b : Nd) (p : Int) (hX : ExprOk Γ x) (hB : BlockOk Γ b.kids) : StmtOk Γ (.mk 5 n [x, b] p) := by
  intro w m ev ρ v u hv hu h hwt hl
  obtain ⟨y, c, rfl, hrow⟩ := hv
  obtain ⟨B, o, rfl, hat, hrow1⟩ := hrow
  obtain ⟨B', o', hBo, hat1, -⟩ := hrow1
  cases hBo
  obtain ⟨kb, nb, lb, pb⟩ := b
  have hEV : evS (.mk 5 n [x, .mk kb nb lb pb] p) ρ m = (if truthB n then [.bad 280 n p] else []) ++ (evE ρ x ++ evSs lb (none :: some (0, n, 0) :: ρ) m) := by
    rw [evS, if_neg (by decide), if_neg (by decide), if_neg (by decide), if_pos rfl]
    show (_ ++ (evE ρ x ++ [])) ++ (evSs lb (none :: some (0, n, 0) :: ρ) m ++ []) = _
    rw [List.append_nil, List.append_nil, List.append_assoc]
  have hEE : envS ρ (.mk 5 n [x, .mk kb nb lb pb] p) = ρ := by simp [envS]
  rw [hEV] at hl ⊢
  rw [hEE]
  have hA : Below w.heap.size w (w.alloc (.cells #[.int .i64 5, .string ⟨n.toArray⟩, .slice (some ⟨B, o, none⟩) 2 c, .int .i64 p] 53)) := (Below.refl _ _).alloc (Nat.le_refl _) _
  have HB := Lib.hid (Box4.new w (.int .i64 5) (.string ⟨n.toArray⟩) (.slice (some ⟨B, o, none⟩) 2 c) (.int .i64 p))
  have H0 := Lib.hid (SOk.start h hA)
  have HENV := Lib.hid hu
  have HAT := Lib.hid hat
  have HAT1 := Lib.hid hat1
  have HW := Lib.hid hw
  have HX := Lib.hid hX
  have HBK := Lib.hid hB
  have HA := Lib.hid hA
  have HMAY := Lib.hid h.may
  have HWL : Hid (m + wtL lb < 2 ^ 40) := Lib.hid (by
    rw [wtN_mk] at hwt
    have h2 : wtL [x, .mk kb nb lb pb] = wtN x + (wtN (.mk kb nb lb pb) + 0) := rfl
    rw [wtN_mk kb] at h2
    omega)
  obtain ⟨tb, htb⟩ : ∃ x, truthB n = x := ⟨_, rfl⟩
  rw [htb] at hl ⊢
  obtain ⟨EB, hEB⟩ : ∃ r, evSs lb (none :: some (0, n, 0) :: ρ) m = r := ⟨_, rfl⟩
  have HEB := Lib.hid hEB
  rw [hEB] at hl ⊢
  obtain ⟨DU, hDU⟩ : ∃ r, (if tb = true then [Ev.bad 280 n p] else []) = r := ⟨_, rfl⟩
  have HDU : Hid (DU = if tb then [.bad 280 n p] else []) := Lib.hid hDU.symm
  have HTB := Lib.hid htb
  rw [hDU] at hl ⊢
  have HL := Lib.hid hl
  obtain ⟨P0, hP0⟩ : ∃ P : List Ev, [] = P := ⟨_, rfl⟩
  rw [hP0] at H0
  have HP0 := Lib.hid hP0
  have HTOT : Hid (DU ++ (evE ρ x ++ EB) = (P0 ++ DU) ++ (evE ρ x ++ EB)) := Lib.hid (by rw [← hP0]; rfl)
  obtain ⟨F, cap, rfl, eg, -⟩ := env_any _ ρ u w hu
  clear hA hat hat1 hu hw hX hB hl hwt h htb hDU hP0 hEV hEE hEB
  go_enter Tryz.func176, Tryz.ntmps176
  go_upto_region 1 with (fail)
  obtain ⟨a, ha⟩ : ∃ a, w.heap.size = a := ⟨_, rfl⟩
  rw [ha] at HB ⊢
  have HAA := Lib.hid ha
  clear ha
  generalize World.alloc w (.cells #[.int .i64 5, .string ⟨n.toArray⟩, .slice (some ⟨B, o, none⟩) 2 c, .int .i64 p] 53) = W at HA H0 HB ⊢
  have haw : ∀ w1, Owp (MayT Γ) W w1 → Box4 w1 a (.int .i64 5) (.string ⟨n.toArray⟩) (.slice (some ⟨B, o, none⟩) 2 c) (.int .i64 p) := fun w1 ho => (ho.block a HB.out.lt (fun hm => by have := HMAY.out a hm; have := HAA.out; omega)).trans HB.out
  have HAW := Lib.hid haw
  clear haw
  obtain ⟨x0, x1', x2, x3, xf⟩ := HB.out.facts
  have ct := truth_any n W
  rw [HTB.out] at ct
  go_upto_if 66 with (first | (go_at_call 203; (with_reducible refine ct.mono ?_); rintro e w4 ⟨rfl, rfl⟩))
  clear x0 x1' x2 x3 xf ct
  go_cut [] from 67 to 72 (fun wx => SOk Γ w m ev (P0 ++ DU) wx ∧ Owp (MayT Γ) W wx)
  case first =>
    obtain ⟨x0, x1', x2, x3, xf⟩ := (HB.out).facts
    cases tb
    · have HXF : Hid (DU = []) := HDU.out
      go_wp2_with fail
      go_meet
      case rel =>
        rw [HXF.out, List.append_nil]
        exact ⟨H0.out, Owp.refl _ _⟩
    · have HXF : Hid (DU = [.bad 280 n p]) := HDU.out
      obtain ⟨-, -, -, -, c4, -, -, -⟩ := H0.out.2.1.cells
      have hw2 := HW.out.2 5 n (some ⟨B, o, none⟩) 2 c p 280 W.drew
      have egw := HW.out.1
      go_upto_region 15 with (fail)
      go_still_tail 5, (by kernel_rfl)
      change wpList _ _ _ _ _ (World.drew W)
      have HOa : Hid (Owp (MayT Γ) W W.drew) := Lib.hid (Owp.of_below (Below.refl _ _).drew)
      have HSa : Hid (SOk Γ w m ev P0 W.drew) := Lib.hid ⟨H0.out.1, H0.out.2.1.same fun _ _ => rfl, H0.out.2.2.trans HOa.out⟩
      generalize World.drew W = wa at *
      go_wp2_with fail
      go_at_fn Γ.wf
      refine hw2.mono ?_
      clear hw2 x0 x1' x2 x3 xf c4
      rintro e wb (⟨ha, rfl, hb⟩ | ⟨ha, hb, b, hbl, rfl, hf⟩)
      · have HOb := Lib.hid (HOa.out.below hb)
        have HOK : Hid (SOk Γ w m ev (P0 ++ DU) wb) := by
          show SOk _ _ _ _ _ _
          rw [HXF.out]
          exact HSa.out.trans ⟨.inl ha, (HSa.out.2.1.below hb).badly _ _ _, Owp.of_below hb⟩
        clear ha hb
        go_wp2_with fail
        go_meet
        case rel => exact ⟨HOK.out, HOb.out⟩
      · refine ⟨rfl, .inr ?_⟩
        rw [HTOT.out, HXF.out]
        exact SBad.left (SBad.right HSa.out ⟨ha, 280, n, p, b, rfl, hbl, rfl, hf, Owp.of_below hb⟩) _
  case rest =>
    obtain ⟨hs5, ho5⟩ := hcut
    have HS5 : Hid (SOk Γ w m ev DU wc) := Lib.hid (by rw [← HP0.out] at hs5; exact hs5)
    have HO5 := Lib.hid ho5
    clear hs5 ho5 H0 HB HTOT
    have HB5 := Lib.hid (HAW.out wc HO5.out)
    obtain ⟨x0, x1', x2, x3, xf⟩ := HB5.out.facts
    obtain ⟨k1, n1, l1, p1⟩ := x
    obtain ⟨hok1, z0, z1, z3, y1, c1, z2, hk1⟩ := (HAT.out.mono (fun _ h _ => h) (fun b hb hl => HS5.out.2.2.block b hl hb) : NdAt wc (fun b => ¬ MayT Γ b) (.mk k1 n1 l1 p1) B o)
    have cx := HX.out wc m _ ρ (.agg #[.int .i64 k1, .string ⟨n1.toArray⟩, .slice y1 l1.length c1, .int .i64 p1]) _ ⟨y1, c1, rfl, hk1⟩ (HENV.out.owp HS5.out.2.2) HS5.out.2.1 (by
      have := HL.out
      simp only [List.length_append] at this ⊢
      omega)
    clear hok1 hk1
    go_wp2_with fail
    refine cx.mono ?_
    clear cx x0 x1' x2 x3 xf z0 z1 z2 z3
    rintro e w6 (⟨rfl, hok⟩ | hbad)
    · have HOK := Lib.hid (SOk.trans HS5.out hok)
      have HO6 := Lib.hid (HO5.out.trans hok.2.2)
      clear hok
      have HB6 := Lib.hid (HAW.out w6 HO6.out)
      obtain ⟨x0, x1', x2, x3, xf⟩ := HB6.out.facts
      obtain ⟨hokb, -, -, -, yb, cb', zb2, hkb⟩ := (HAT1.out.mono (fun _ h _ => h) (fun b hb hl => HOK.out.2.2.block b hl hb) : NdAt w6 (fun b => ¬ MayT Γ b) (.mk kb nb lb pb) B (o + 4))
      have hd : Below w6.heap.size w6 w6.drew := (Below.refl _ _).drew
      have HS6 := Lib.hid (⟨HOK.out.1, HOK.out.2.1.below hd, HOK.out.2.2.below hd⟩ : SOk Γ w m ev _ w6.drew)
      have HKB := Lib.hid (hkb.below hd)
      have HOKB := Lib.hid hokb.ok
      have cw := with_any (MayT Γ) ρ _ 0 n 0 false (by decide) w6.drew (HENV.out.owp HS6.out.2.2) HS6.out.2.1.may
      have cb : ∀ w8 u8, EnvAt w8 (MayT Γ) (some (0, n, 0) :: ρ) u8 → Below w6.drew.heap.size w6.drew w8 → Calls Tryz.prog 134 #[.pointer (some ⟨Γ.wb, 0, none⟩), .slice yb lb.length cb', u8] w8 (SEnd Γ w8 m (ev ++ (DU ++ evE ρ (.mk k1 n1 l1 p1))) EB) := by
        intro w8 u8 he8 hb8
        have h1 := HBK.out w8 m _ (some (0, n, 0) :: ρ) yb cb' u8 (HKB.out.below hb8) he8 (HS6.out.2.1.below hb8) HWL.out (by
          have := HL.out
          show _ + (evSs lb (none :: some (0, n, 0) :: ρ) m).length < _
          rw [HEB.out]
          simp only [List.length_append] at this ⊢
          omega)
        rw [show (Nd.mk kb nb lb pb).kids = lb from rfl, HEB.out] at h1
        exact h1
      have d1 : w6.drew.cell? ⟨a, 1, none⟩ = some (.string ⟨n.toArray⟩) := x1'
      have d2 : w6.drew.cell? ⟨a, 2, none⟩ = some (.slice (some ⟨B, o, none⟩) 2 c) := x2
      have d3 : w6.drew.cell? ⟨B, o + 4 + 2, none⟩ = some (.slice yb lb.length cb') := zb2
      have HD : Hid (∀ w9, Owp (MayT Γ) w6.drew w9 → w9.cell? ⟨a, 1, none⟩ = some (.string ⟨n.toArray⟩) ∧ w9.cell? ⟨a, 2, none⟩ = some (.slice (some ⟨B, o, none⟩) 2 c) ∧ w9.cell? ⟨B, o + 4 + 2, none⟩ = some (.slice yb lb.length cb')) := Lib.hid fun w9 ho => by
        have hna : ¬ MayT Γ a := fun hm => by have := HMAY.out a hm; have := HAA.out; omega
        exact ⟨ho.cell (p := ⟨a, 1, none⟩) hna d1, ho.cell (p := ⟨a, 2, none⟩) hna d2, ho.cell (p := ⟨B, o + 4 + 2, none⟩) HOKB.out d3⟩
      have HS8 : Hid (∀ w8, Below w6.drew.heap.size w6.drew w8 → SOk Γ w m ev (DU ++ evE ρ (.mk k1 n1 l1 p1)) w8) := Lib.hid fun w8 hb => ⟨HS6.out.1, HS6.out.2.1.below hb, HS6.out.2.2.below hb⟩
      clear hokb hkb hd
      go_upto_region 17 with (fail)
      go_region_held2 (fun w' => w'.cell? ⟨a, 1, none⟩ = some (.string ⟨n.toArray⟩) ∧ w'.cell? ⟨a, 2, none⟩ = some (.slice (some ⟨B, o, none⟩) 2 c) ∧ w'.cell? ⟨B, o + 4 + 2, none⟩ = some (.slice yb lb.length cb')) (first | with_reducible exact ⟨x1', x2, zb2⟩ | with_reducible exact ⟨d1, d2, d3⟩ | with_reducible assumption) (first | (go_at_call 205; (refine cw.mono ?_); rintro e w8 ⟨u8, rfl, he8, hb8⟩; have hS8 := HD.out w8 (Owp.of_below hb8)) | (go_at_call 134; (refine (cb _ _ he8 hb8).mono ?_); rintro e w9 (⟨rfl, hok⟩ | hbad); rotate_left; (obtain ⟨ch, rfl⟩ := hbad.pan; refine ⟨rfl, .inr ?_⟩; rw [← List.append_assoc]; exact SBad.right (HS8.out _ hb8) hbad); have hS9 := HD.out w9 ((Owp.of_below hb8).trans hok.2.2)))
      have HS9 := Lib.hid (SOk.trans (HS8.out _ hb8) hok)
      have HE9 := Lib.hid (HENV.out.owp HS9.out.2.2)
      clear hS8 hS9 hok he8 hb8 d1 d2 d3 x0 x1' x2 x3 xf zb2
      go_wp2_with fail
      go_ret
      refine .inl ⟨_, rfl, HE9.out, ?_⟩
      rw [← List.append_assoc]
      exact HS9.out
    · have hb2 : SBad Γ w (DU ++ (evE ρ (.mk k1 n1 l1 p1) ++ EB)) e w6 := SBad.right HS5.out (SBad.left hbad _)
      obtain ⟨ch, rfl⟩ := hbad.pan
      exact ⟨rfl, .inr hb2⟩
end Go.Proofs.YtpbkeamjdolpgaaGreatDoor
namespace Go.Proofs.YtpbkeamjdolpgaaGreatDoor
open Go.RowKit Go.Lib
open Go.Maps (Keyed)

set_option maxHeartbeats 4000000 in
set_option maxRecDepth 100000 in
theorem stmt6_step (Γ : SCtx) (n : List UInt8) (x : Nd) (r : List Nd) (p : Int) (hX : ExprOk Γ x) (hB : ∀ b ∈ r, BlockOk Γ b.kids) (hr1 : 0 < r.length) : ∀ (w : World) (m : Nat) (ev : List Ev) (ρ : Env) (y : Option Addr) (c : Nat) (u : Value), NdRow w (fun b => ¬ MayT Γ b) (x :: r) y → (x :: r).length ≤ c → EnvAt w (MayT Γ) ρ u → WSt Γ w m ev → m + wtN (.mk 6 n (x :: r) p) < 2 ^ 40 → ev.length + (evS (.mk 6 n (x :: r) p) ρ m).length < 2 ^ 40 →
    Calls Tryz.prog 176 #[.pointer (some ⟨Γ.wb, 0, none⟩), .agg #[.int .i64 6, .string ⟨n.toArray⟩, .slice y (x :: r).length c, .int .i64 p], u] w (SEndE Γ w m ev (evS (.mk 6 n (x :: r) p) ρ m) (envS ρ (.mk 6 n (x :: r) p))) := by
  intro w m ev ρ y c u hrow hcap hu h hwt hl
  obtain ⟨B, o, rfl, hat, hrow1⟩ := hrow
  have hEV : evS (.mk 6 n (x :: r) p) ρ m = evE ρ x ++ evBs r ρ m := by
    rw [evS, if_neg (by decide), if_neg (by decide), if_neg (by decide), if_neg (by decide), if_pos rfl]
    show (evE ρ x ++ []) ++ evBs r ρ m = _
    rw [List.append_nil]
  have hEE : envS ρ (.mk 6 n (x :: r) p) = ρ := by simp [envS]
  rw [hEV] at hl ⊢
  rw [hEE]
  obtain ⟨R, hR⟩ : ∃ R, r.length = R := ⟨_, rfl⟩
  have hK : (x :: r).length = R + 1 := by rw [← hR]; rfl
  have HC : Hid (0 < R ∧ R + 1 ≤ c) := Lib.hid ⟨by omega, by omega⟩
  rw [hK]
  have hA : Below w.heap.size w (w.alloc (.cells #[.int .i64 6, .string ⟨n.toArray⟩, .slice (some ⟨B, o, none⟩) (R + 1) c, .int .i64 p] 53)) := (Below.refl _ _).alloc (Nat.le_refl _) _
  have HB := Lib.hid (Box4.new w (.int .i64 6) (.string ⟨n.toArray⟩) (.slice (some ⟨B, o, none⟩) (R + 1) c) (.int .i64 p))
  have H0 := Lib.hid (SOk.start h hA)
  have HENV := Lib.hid hu
  have HAT := Lib.hid hat
  have HROW1 := Lib.hid hrow1
  have HX := Lib.hid hX
  have HBK := Lib.hid hB
  have HA := Lib.hid hA
  have HMAY := Lib.hid h.may
  have HL := Lib.hid hl
  have HRR := Lib.hid hR
  have hwt2 : wtN (.mk 6 n (x :: r) p) = (wtN x + wtL r) + n.length + 1 := by
    rw [wtN_mk]
    rfl
  have HWT : Hid (m + wtL r < 2 ^ 40) := Lib.hid (by omega)
  have hRs : R < 2 ^ 40 := by
    have := len_wtL r
    omega
  obtain ⟨F, cap, rfl, eg, -⟩ := env_any _ ρ u w hu
  clear hA hat hrow1 hu hX hB hl hwt h hEV hEE hK hR hwt2 hr1 hcap
  go_enter Tryz.func176, Tryz.ntmps176
  go_upto_region 1 with (fail)
  obtain ⟨a, ha⟩ : ∃ a, w.heap.size = a := ⟨_, rfl⟩
  rw [ha] at HB ⊢
  have HAA := Lib.hid ha
  clear ha
  generalize World.alloc w (.cells #[.int .i64 6, .string ⟨n.toArray⟩, .slice (some ⟨B, o, none⟩) (R + 1) c, .int .i64 p] 53) = W at HA H0 HB ⊢
  have haw : ∀ w1, Owp (MayT Γ) W w1 → Box4 w1 a (.int .i64 6) (.string ⟨n.toArray⟩) (.slice (some ⟨B, o, none⟩) (R + 1) c) (.int .i64 p) := fun w1 ho => (ho.block a HB.out.lt (fun hm => by have := HMAY.out a hm; have := HAA.out; omega)).trans HB.out
  have HAW := Lib.hid haw
  clear haw
  obtain ⟨x0, x1', x2, x3, xf⟩ := HB.out.facts
  have hc1 : ¬ c = 1 := by have := HC.out; omega
  obtain ⟨k1, n1, l1, p1⟩ := x
  obtain ⟨hok1, z0, z1, z3, y1, c1, z2, hk1⟩ := (HAT.out.mono (fun _ h _ => h) (fun b hb hl => H0.out.2.2.block b hl hb) : NdAt W (fun b => ¬ MayT Γ b) (.mk k1 n1 l1 p1) B o)
  have cx := HX.out W m _ ρ (.agg #[.int .i64 k1, .string ⟨n1.toArray⟩, .slice y1 l1.length c1, .int .i64 p1]) _ ⟨y1, c1, rfl, hk1⟩ (HENV.out.owp H0.out.2.2) H0.out.2.1 (by
    have := HL.out
    simp only [List.length_append, List.length_nil] at this ⊢
    omega)
  clear hok1 hk1
  go_wp2_with fail
  refine cx.mono ?_
  clear cx x0 x1' x2 x3 xf z0 z1 z2 z3
  rintro e w6 (⟨rfl, hok⟩ | hbad)
  · have HOK : Hid (SOk Γ w m ev (evE ρ (.mk k1 n1 l1 p1)) w6) := Lib.hid (SOk.trans (e1 := []) H0.out hok)
    have HO6 : Hid (Owp (MayT Γ) W w6) := Lib.hid hok.2.2
    clear hok
    have HB6 := Lib.hid (HAW.out w6 HO6.out)
    obtain ⟨x0, x1', x2, x3, xf⟩ := HB6.out.facts
    go_upto_region 20 with (fail)
    go_wp2_with fail
    go_loopg [105] R (fun g v wx => ∃ i : Nat, v = .int .i64 i ∧ i + g = R ∧ SOk Γ w m ev (evE ρ (.mk k1 n1 l1 p1) ++ evBs (r.take i) ρ m) wx)
    case atStart => exact ⟨0, rfl, by omega, by (rw [List.take_zero]; show SOk _ _ _ _ (_ ++ []) _; rw [List.append_nil]; exact HOK.out)⟩
    case round =>
      clear HOK x0 x1' x2 x3 xf HB6
      obtain ⟨i, rfl, hi, hok⟩ := hrel
      have HOK := Lib.hid hok
      clear hok
      by_cases hlt : i < R
      · obtain ⟨b, hb⟩ : ∃ b, r[i]? = some b := ⟨r[i]'(by have := HRR.out; omega), List.getElem?_eq_getElem _⟩
        have hmem := List.mem_of_getElem? hb
        obtain ⟨B1, o1, hbo, hat⟩ := (NdRow.mono (fun _ h _ => h) (fun b hb hl => HOK.out.2.2.block b hl hb) _ _ HROW1.out : NdRow wr (fun b => ¬ MayT Γ b) r (some ⟨B, o + 4, none⟩)).at_ hb
        cases hbo
        obtain ⟨k2, n2, l2, p2⟩ := b
        have htk : r.take (i + 1) = r.take i ++ [.mk k2 n2 l2 p2] := by rw [List.take_add_one, hb]; rfl
        have hevs : evBs (r.take (i + 1)) ρ m = evBs (r.take i) ρ m ++ evSs l2 (none :: ρ) m := by
          rw [htk, evBs_app]
          show _ ++ (evSs l2 (none :: ρ) m ++ []) = _
          rw [List.append_nil]
        obtain ⟨E2, hcat⟩ : ∃ E2, evE ρ (.mk k1 n1 l1 p1) ++ evBs r ρ m = (evE ρ (.mk k1 n1 l1 p1) ++ evBs (r.take i) ρ m) ++ (evSs l2 (none :: ρ) m ++ E2) := by
          refine ⟨evBs (r.drop (i + 1)) ρ m, ?_⟩
          have h1 : r = r.take (i + 1) ++ r.drop (i + 1) := (List.take_append_drop _ _).symm
          conv => lhs; rw [h1]
          rw [evBs_app, hevs]
          simp only [List.append_assoc]
        have hwx := wtL_mem hmem
        rw [wtN_mk] at hwx
        obtain ⟨-, z0, z1, z3, y2, c2, z2, hk2⟩ := hat
        have HY := Lib.hid (HBK.out _ hmem)
        have HEV := Lib.hid hevs
        have HCAT := Lib.hid hcat
        have HK2 := Lib.hid hk2
        have HWX := Lib.hid hwx
        have hlt' : (i : Int) < (R : Int) := by omega
        have Qi1 : IntKind.i64.wrap ((i : Int) + 1) = (i : Int) + 1 := IntWalk.i64_in _ (by omega)
        clear hb hmem hevs hcat hk2 htk hwx
        go_upto_region 23 with (fail)
        have hal : Below wr.heap.size wr (wr.alloc (.cells #[.int .i64 k2, .string ⟨n2.toArray⟩, .slice y2 l2.length c2, .int .i64 p2] 53)) := (Below.refl _ _).alloc (Nat.le_refl _) _
        have HS1 := Lib.hid (⟨HOK.out.1, HOK.out.2.1.below hal, HOK.out.2.2.below hal⟩ : SOk Γ w m ev _ _)
        have HK3 := Lib.hid (HK2.out.below hal)
        have HBX := Lib.hid (Box4.new wr (.int .i64 k2) (.string ⟨n2.toArray⟩) (.slice y2 l2.length c2) (.int .i64 p2))
        clear z0 z1 z2 z3 HOK HK2 hal
        obtain ⟨bx, hbx⟩ : ∃ bx, wr.heap.size = bx := ⟨_, rfl⟩
        rw [hbx] at HBX ⊢
        clear hbx
        generalize World.alloc wr (.cells #[.int .i64 k2, .string ⟨n2.toArray⟩, .slice y2 l2.length c2, .int .i64 p2] 53) = w7 at HS1 HK3 HBX ⊢
        obtain ⟨x0, x1', x2, x3, xf⟩ := HBX.out.facts
        have cb := HY.out w7 m _ ρ y2 c2 _ HK3.out (HENV.out.owp HS1.out.2.2) HS1.out.2.1 (by
          have h1 := HWT.out
          have h2 := HWX.out
          show m + wtL l2 < _
          omega) (by
          have := HL.out
          rw [HCAT.out] at this
          show _ + (evSs l2 (none :: ρ) m).length < _
          simp only [List.length_append] at this ⊢
          omega)
        rw [show (Nd.mk k2 n2 l2 p2).kids = l2 from rfl] at cb
        go_wp2_with fail
        refine cb.mono ?_
        clear cb x0 x1' x2 x3 xf
        rintro e w8 (⟨rfl, hok⟩ | hbad)
        · have HOK : Hid (SOk Γ w m ev (evE ρ (.mk k1 n1 l1 p1) ++ evBs (r.take (i + 1)) ρ m) w8) := by
            show SOk _ _ _ _ _ _
            rw [HEV.out, ← List.append_assoc]
            exact SOk.trans HS1.out hok
          clear hok
          go_wp2_with fail
          go_roundg (gk - 1)
          case measure => omega
          case rel => exact ⟨i + 1, rfl, by omega, HOK.out⟩
        · have hb2 : SBad Γ w (evE ρ (.mk k1 n1 l1 p1) ++ evBs r ρ m) e w8 := by
            rw [HCAT.out]
            exact SBad.right HS1.out (SBad.left hbad _)
          obtain ⟨ch, rfl⟩ := hbad.pan
          exact ⟨rfl, .inr hb2⟩
      · have hlt' : ¬ (i : Int) < (R : Int) := by omega
        have HE : Hid (SOk Γ w m ev (evE ρ (.mk k1 n1 l1 p1) ++ evBs r ρ m) wr) := by
          show SOk _ _ _ _ _ _
          have := HOK.out
          rw [List.take_of_length_le (by have := HRR.out; omega)] at this
          exact this
        have HE9 := Lib.hid (HENV.out.owp HE.out.2.2)
        clear HOK
        go_wp2_with fail
        go_ret
        exact .inl ⟨_, rfl, HE9.out, HE.out⟩
  · have hb2 : SBad Γ w (evE ρ (.mk k1 n1 l1 p1) ++ evBs r ρ m) e w6 := SBad.right (e1 := []) H0.out (SBad.left hbad _)
    obtain ⟨ch, rfl⟩ := hbad.pan
    exact ⟨rfl, .inr hb2⟩
end Go.Proofs.YtpbkeamjdolpgaaGreatDoor
namespace Go.Proofs.YtpbkeamjdolpgaaGreatDoor
open Go.RowKit Go.Lib

theorem stmt3_any (Γ : SCtx) (hw : WrongOk Γ) (n : List UInt8) (k0 : Int) (n0 : List UInt8) (l0 : List Nd) (p0 : Int) (x1 : Nd) (p : Int) (hX : ExprOk Γ x1) : StmtOk Γ (.mk 3 n [.mk k0 n0 l0 p0, x1] p) := by
  have hb := body1_step Γ hw 3 n k0 n0 l0 p0 x1 p hX
  have e : (fun (ρ : Env) (m : Nat) => defE ρ 1 n p ++ (parE (none :: some (1, n, l0.length) :: ρ) l0 ++ evEs (parV (none :: some (1, n, l0.length) :: ρ) l0) [x1])) = fun ρ m => evS (.mk 3 n [.mk k0 n0 l0 p0, x1] p) ρ m := by
    funext ρ m
    rw [evS, if_neg (by decide), if_neg (by decide), if_pos rfl, List.append_assoc]
    rfl
  rw [e] at hb
  exact stmt3_step Γ n _ p hb
theorem stmt2_any (Γ : SCtx) (hw : WrongOk Γ) (n : List UInt8) (k0 : Int) (n0 : List UInt8) (l0 : List Nd) (p0 : Int) (x1 : Nd) (p : Int) (hX : BlockOk Γ x1.kids) : StmtOk Γ (.mk 2 n [.mk k0 n0 l0 p0, x1] p) := by
  have hb := body2_step Γ hw 2 n k0 n0 l0 p0 x1 p hX
  have e : (fun (ρ : Env) (m : Nat) => defE ρ 2 n p ++ (parE (none :: some (2, n, l0.length) :: ρ) l0 ++ evBs [x1] (parV (none :: some (2, n, l0.length) :: ρ) l0) (m + 1))) = fun ρ m => evS (.mk 2 n [.mk k0 n0 l0 p0, x1] p) ρ m := by
    funext ρ m
    rw [evS, if_neg (by decide), if_pos rfl, List.append_assoc]
    rfl
  rw [e] at hb
  exact stmt2_step Γ n _ p hb
theorem stmt7_any (Γ : SCtx) (hw : WrongOk Γ) (n : List UInt8) (k0 : Int) (n0 : List UInt8) (l0 : List Nd) (p0 : Int) (r : List Nd) (p : Int) (hr : r.length ≤ 1) (hn : n.length < 2 ^ 40) (ihE : ∀ x ∈ l0, ExprOk Γ x) (ihB : ∀ x ∈ r, BlockOk Γ x.kids) : StmtOk Γ (.mk 7 n (.mk k0 n0 l0 p0 :: r) p) :=
  stmt7_step Γ n _ p (call_step Γ hw 7 n k0 n0 l0 p0 r p hr hn ihE ihB)
end Go.Proofs.YtpbkeamjdolpgaaGreatDoor
namespace Go.Proofs.YtpbkeamjdolpgaaGreatDoor
open Go.RowKit Go.Lib

def okW (w : Int) (x : Nd) : Bool := if w < 0 then exR x else decide (x.kind = w) && partR x
theorem shR1 {a : Int} : ∀ {kids : List Nd}, shR [a] kids = true → ∃ x, kids = [x] ∧ okW a x = true
  | [], h => by simp [shR] at h
  | [x], h => by
    refine ⟨x, rfl, ?_⟩
    rw [shR, Bool.and_eq_true] at h
    exact h.1
  | _ :: _ :: _, h => by simp [shR] at h
theorem shR2 {a b : Int} : ∀ {kids : List Nd}, shR [a, b] kids = true → ∃ x y, kids = [x, y] ∧ okW a x = true ∧ okW b y = true
  | [], h => by simp [shR] at h
  | x :: r, h => by
    rw [shR, Bool.and_eq_true] at h
    obtain ⟨y, rfl, hy⟩ := shR1 h.2
    exact ⟨x, y, rfl, h.1, hy⟩
theorem shR3 {a b c : Int} : ∀ {kids : List Nd}, shR [a, b, c] kids = true → ∃ x y z, kids = [x, y, z] ∧ okW a x = true ∧ okW b y = true ∧ okW c z = true
  | [], h => by simp [shR] at h
  | x :: r, h => by
    rw [shR, Bool.and_eq_true] at h
    obtain ⟨y, z, rfl, hy, hz⟩ := shR2 h.2
    exact ⟨x, y, z, rfl, h.1, hy, hz⟩
theorem okW_ex {x : Nd} (h : okW (-1) x = true) : exR x = true := h
theorem okW_blk {x : Nd} (h : okW 0 x = true) : stsR x.kids = true := by
  obtain ⟨k, n, l, p⟩ := x
  rw [okW, if_neg (by decide), Bool.and_eq_true, partR, Bool.and_eq_true] at h
  obtain ⟨h1, -, h2⟩ := h
  obtain rfl : k = 0 := of_decide_eq_true h1
  rwa [if_pos rfl] at h2
theorem okW_arg {x : Nd} (h : okW 8 x = true) : exsR x.kids = true := by
  obtain ⟨k, n, l, p⟩ := x
  rw [okW, if_neg (by decide), Bool.and_eq_true, partR, Bool.and_eq_true] at h
  obtain ⟨h1, -, h2⟩ := h
  obtain rfl : k = 8 := of_decide_eq_true h1
  rwa [if_neg (by decide), if_neg (by decide)] at h2
theorem stsR_each : ∀ {l : List Nd}, stsR l = true → ∀ x ∈ l, stR x = true
  | y :: r, h, x, hx => by
    have h' : (stR y && stsR r) = true := h
    rw [Bool.and_eq_true] at h'
    rcases List.mem_cons.1 hx with rfl | hx
    · exact h'.1
    · exact stsR_each h'.2 x hx
theorem stmt6_any (Γ : SCtx) (n : List UInt8) (x : Nd) (r : List Nd) (p : Int) (hX : ExprOk Γ x) (hB : ∀ b ∈ r, BlockOk Γ b.kids) (hr : 0 < r.length) : StmtOk Γ (.mk 6 n (x :: r) p) := by
  intro w m ev ρ v u hv hu h hwt hl
  obtain ⟨y, ⟨c, hc⟩, rfl, hrow⟩ := hv
  exact stmt6_step Γ n x r p hX hB hr w m ev ρ y c u hrow hc hu h hwt hl
theorem sstmt_any (Γ : SCtx) (hw : WrongOk Γ) : ∀ (N : Nat) (x : Nd), wtN x < N → wtN x < 2 ^ 40 → stR x = true → StmtOk Γ x
  | N + 1, .mk k n kids p, hN, hs, hx => by
    rw [wtN_mk] at hN hs
    have hE : ∀ y ∈ kids, exR y = true → ExprOk Γ y := fun y hy he => sexpr_any Γ hw (wtN y + 1) y (Nat.lt_succ_self _) (by have := wtL_mem hy; omega) (.inl he)
    have hA : ∀ y ∈ kids, okW 8 y = true → ∀ z ∈ y.kids, ExprOk Γ z := fun y hy hy8 z hz => by
      have h1 := wtL_mem hy
      obtain ⟨k', n', l', p'⟩ := y
      rw [wtN_mk] at h1
      have h2 := wtL_mem (show z ∈ l' from hz)
      exact sexpr_any Γ hw (wtN z + 1) z (Nat.lt_succ_self _) (by omega) (.inl (exsR_each (okW_arg hy8) z hz))
    have hB : ∀ y ∈ kids, okW 0 y = true → BlockOk Γ y.kids := fun y hy hb => block_step Γ y.kids fun z hz => by
      have h1 := wtL_mem hy
      obtain ⟨k', n', l', p'⟩ := y
      rw [wtN_mk] at h1
      have h2 := wtL_mem (show z ∈ l' from hz)
      exact sstmt_any Γ hw N z (by omega) (by omega) (stsR_each (okW_blk hb) z hz)
    rw [stR] at hx
    by_cases k6 : k = 6
    · subst k6
      rw [if_pos rfl, Bool.and_eq_true] at hx
      have h2 := hx.2
      split at h2
      · obtain ⟨x, y, rfl, hx1, hy⟩ := shR2 h2
        exact stmt6_any Γ n x [y] p (hE x (by simp) (okW_ex hx1)) (fun b hb => by
          obtain rfl := List.mem_singleton.1 hb
          exact hB b (by simp) hy) (by simp)
      · obtain ⟨x, y, z, rfl, hx1, hy, hz⟩ := shR3 h2
        refine stmt6_any Γ n x [y, z] p (hE x (by simp) (okW_ex hx1)) (fun b hb => ?_) (by simp)
        rcases List.mem_cons.1 hb with rfl | hb
        · exact hB b (by simp) hy
        · obtain rfl := List.mem_singleton.1 hb
          exact hB b (by simp) hz
    rw [if_neg k6, Bool.and_eq_true] at hx
    have hx := hx.2
    by_cases k1 : k = 1
    · subst k1
      rw [if_pos rfl] at hx
      obtain ⟨x, rfl, hx1⟩ := shR1 hx
      exact stmt1_step Γ hw n x p (hE x (by simp) (okW_ex hx1))
    rw [if_neg k1] at hx
    by_cases k2 : k = 2
    · subst k2
      rw [if_pos rfl] at hx
      obtain ⟨⟨k0, n0, l0, p0⟩, y, rfl, hx1, hy⟩ := shR2 hx
      exact stmt2_any Γ hw n k0 n0 l0 p0 y p (hB y (by simp) hy)
    rw [if_neg k2] at hx
    by_cases k3 : k = 3
    · subst k3
      rw [if_pos rfl] at hx
      obtain ⟨⟨k0, n0, l0, p0⟩, y, rfl, hx1, hy⟩ := shR2 hx
      exact stmt3_any Γ hw n k0 n0 l0 p0 y p (hE y (by simp) (okW_ex hy))
    rw [if_neg k3] at hx
    by_cases k5 : k = 5
    · subst k5
      rw [if_pos rfl] at hx
      obtain ⟨x, y, rfl, hx1, hy⟩ := shR2 hx
      exact stmt5_step Γ hw n x y p (hE x (by simp) (okW_ex hx1)) (hB y (by simp) hy)
    rw [if_neg k5] at hx
    by_cases k7 : k = 7
    · subst k7
      rw [if_pos rfl] at hx
      split at hx
      · obtain ⟨⟨k0, n0, l0, p0⟩, rfl, hx1⟩ := shR1 hx
        exact stmt7_any Γ hw n k0 n0 l0 p0 [] p (by simp) (by omega) (hA _ (by simp) hx1) (fun b hb => by cases hb)
      · obtain ⟨⟨k0, n0, l0, p0⟩, y, rfl, hx1, hy⟩ := shR2 hx
        exact stmt7_any Γ hw n k0 n0 l0 p0 [y] p (by simp) (by omega) (hA _ (by simp) hx1) (fun b hb => by
          obtain rfl := List.mem_singleton.1 hb
          exact hB b (by simp) hy)
    rw [if_neg k7] at hx
    cases hx
theorem sblock_any (Γ : SCtx) (hw : WrongOk Γ) (l : List Nd) (hs : wtL l < 2 ^ 40) (hx : stsR l = true) : BlockOk Γ l :=
  block_step Γ l fun z hz => sstmt_any Γ hw (wtN z + 1) z (Nat.lt_succ_self _) (by have := wtL_mem hz; omega) (stsR_each hx z hz)
end Go.Proofs.YtpbkeamjdolpgaaGreatDoor
namespace Go.Proofs.YtpbkeamjdolpgaaGreatDoor

theorem exprE_len (ρ : Env) (k : Int) (n : List UInt8) (kids : List Nd) (p : Int) : (exprE ρ k n kids p).length ≤ 2 := by
  unfold exprE
  split
  · split <;> simp
  · split
    · rw [List.length_cons]
      split
      · simp
      · split <;> simp
    · simp
theorem dupE_len (ρ : Env) (n : List UInt8) (p : Int) : (dupE ρ n p).length ≤ 1 := by
  unfold dupE
  split <;> simp
theorem defE_len (ρ : Env) (k : Nat) (n : List UInt8) (p : Int) : (defE ρ k n p).length ≤ 1 := by
  unfold defE
  generalize ((if k = 1 then (fnB n).isSome else (mdB n).isSome) || (findE ρ k n true).isSome) = b
  cases b <;> simp
theorem callE_len (ρ : Env) (m : Nat) (n : List UInt8) (kids : List Nd) (p : Int) : (callE ρ m n kids p).length ≤ 2 := by
  unfold callE
  rw [List.length_cons]
  split
  · simp
  · split <;> simp
theorem parE_len : ∀ (l : List Nd) (ρ : Env), (parE ρ l).length ≤ l.length
  | [], _ => Nat.le_refl _
  | .mk _ n _ p :: r, ρ => by
    rw [parE, List.length_append, List.length_cons]
    have := dupE_len ρ n p
    have := parE_len r (some (0, n, 0) :: ρ)
    omega
mutual
theorem evE_len (ρ : Env) : ∀ x : Nd, (evE ρ x).length ≤ 2 * wtN x
  | .mk k n kids p => by
    rw [evE, List.length_append, wtN_mk]
    have := exprE_len ρ k n kids p
    have := evEs_len ρ kids
    omega
theorem evEs_len (ρ : Env) : ∀ l : List Nd, (evEs ρ l).length ≤ 2 * wtL l
  | [] => by simp [evEs]
  | x :: r => by
    rw [evEs, List.length_append, wtL]
    have := evE_len ρ x
    have := evEs_len ρ r
    omega
end
theorem body_wt : ∀ (kids : List Nd), wtL (bodyOf kids) + wtL kids.tail ≤ wtL kids
  | [] => by simp [bodyOf, wtL]
  | .mk k n l p :: r => by
    show wtL l + wtL r ≤ wtN (.mk k n l p) + wtL r
    rw [wtN_mk]
    omega
theorem take_wt : ∀ (kids : List Nd), wtL (kids.take 1) + wtL kids.tail ≤ wtL kids
  | [] => by simp [wtL]
  | x :: r => by
    show wtN x + wtL [] + wtL r ≤ wtN x + wtL r
    have : wtL [] = 0 := rfl
    omega
mutual
theorem evS_len : ∀ (x : Nd) (ρ : Env) (m : Nat), (evS x ρ m).length ≤ 2 * wtN x
  | .mk k n kids p, ρ, m => by
    rw [evS, wtN_mk]
    have hb := body_wt kids
    have ht := take_wt kids
    have hl := len_wtL (bodyOf kids)
    have h1 := dupE_len ρ n p
    have h2 := callE_len ρ m n kids p
    have h3 := fun k => defE_len ρ k n p
    have h4 := fun ρ => parE_len (bodyOf kids) ρ
    have h5 := fun ρ m => evT_len kids ρ m
    have h6 := fun ρ l => evEs_len ρ l
    split
    · rw [List.length_append]
      have := h6 ρ kids
      omega
    split
    · rw [List.length_append, List.length_append]
      have := h3 2
      have := h4 (none :: some (2, n, argc kids) :: ρ)
      have := h5 (parV (none :: some (2, n, argc kids) :: ρ) (bodyOf kids)) (m + 1)
      omega
    split
    · rw [List.length_append, List.length_append]
      have := h3 1
      have := h4 (none :: some (1, n, argc kids) :: ρ)
      have := h6 (parV (none :: some (1, n, argc kids) :: ρ) (bodyOf kids)) kids.tail
      omega
    split
    · rw [List.length_append, List.length_append]
      have := h5 (some (0, n, 0) :: ρ) m
      have := h6 ρ (kids.take 1)
      have h7 : (if truthB n then [Ev.bad 280 n p] else []).length ≤ 1 := by split <;> simp
      omega
    split
    · rw [List.length_append]
      have := h5 ρ m
      have := h6 ρ (kids.take 1)
      omega
    · rw [List.length_append, List.length_append]
      have := h5 ρ m
      have := h6 ρ (bodyOf kids)
      omega
theorem evT_len : ∀ (l : List Nd) (ρ : Env) (m : Nat), (evT l ρ m).length ≤ 2 * wtL l.tail
  | [], _, _ => by simp [evT]
  | _ :: r, ρ, m => by
    rw [evT]
    exact evBs_len r ρ m
theorem evBs_len : ∀ (l : List Nd) (ρ : Env) (m : Nat), (evBs l ρ m).length ≤ 2 * wtL l
  | [], _, _ => by simp [evBs]
  | x :: r, ρ, m => by
    rw [evBs, List.length_append, wtL]
    have := evB_len x ρ m
    have := evBs_len r ρ m
    omega
theorem evB_len : ∀ (x : Nd) (ρ : Env) (m : Nat), (evB x ρ m).length ≤ 2 * wtN x
  | .mk _ n l _, ρ, m => by
    rw [evB, wtN_mk]
    have := evSs_len l (none :: ρ) m
    omega
theorem evSs_len : ∀ (l : List Nd) (ρ : Env) (m : Nat), (evSs l ρ m).length ≤ 2 * wtL l
  | [], _, _ => by simp [evSs]
  | x :: r, ρ, m => by
    rw [evSs, List.length_append, wtL]
    have := evS_len x ρ m
    have := evSs_len r (envS ρ x) m
    omega
end
end Go.Proofs.YtpbkeamjdolpgaaGreatDoor
namespace Go.Proofs.YtpbkeamjdolpgaaGreatDoor
open Go.RowKit Go.Lib

set_option maxHeartbeats 4000000 in
set_option maxRecDepth 100000 in
theorem wrong_stop (Γ : SCtx) (h1 : Γ.wf = 75) (h2 : Γ.all = false) : WrongOk Γ := by
  unfold WrongOk
  rw [h1, h2]
  refine ⟨fun _ _ => rfl, fun k n y len c p code w => ?_⟩
  have hB := Box4.new w (.int .i64 k) (.string ⟨n.toArray⟩) (.slice y len c) (.int .i64 p)
  obtain ⟨x0, x1, x2, x3, xf⟩ := hB.facts
  have hA : Below w.heap.size w (w.alloc (.cells #[.int .i64 k, .string ⟨n.toArray⟩, .slice y len c, .int .i64 p] 53)) := (Below.refl _ _).alloc (Nat.le_refl _) _
  have HA := Lib.hid hA
  clear hA hB
  go_enter Tryz.func75, Tryz.ntmps75
  go_wp2_with fail
  have hz := World.size_alloc w (.cells #[.int .i64 k, .string ⟨n.toArray⟩, .slice y len c, .int .i64 p] 53)
  refine ⟨rfl, .inr ⟨trivial, HA.out.alloc (by rw [hz]; omega) _, w.heap.size + 1, by omega, rfl, ?_⟩⟩
  have := heap_alloc_new (w.alloc (.cells #[.int .i64 k, .string ⟨n.toArray⟩, .slice y len c, .int .i64 p] 53)) (.cells #[.int .i64 code, .int .i64 p, .string ⟨n.toArray⟩] 61)
  rwa [hz] at this
set_option maxHeartbeats 4000000 in
set_option maxRecDepth 100000 in
theorem wrong_free (Γ : SCtx) (h1 : Γ.wf = 77) (h2 : Γ.all = true) : WrongOk Γ := by
  unfold WrongOk
  rw [h1, h2]
  refine ⟨fun _ _ => rfl, fun k n y len c p code w => ?_⟩
  have hA : Below w.heap.size w (w.alloc (.cells #[.int .i64 k, .string ⟨n.toArray⟩, .slice y len c, .int .i64 p] 53)) := (Below.refl _ _).alloc (Nat.le_refl _) _
  go_enter Tryz.func77, Tryz.ntmps77
  go_wp2_with fail
  go_end0
  exact .inl ⟨trivial, rfl, hA⟩
set_option maxHeartbeats 4000000 in
set_option maxRecDepth 100000 in
theorem wrong_calls (Γ : SCtx) (h1 : Γ.wf = 78) (h2 : Γ.all = true) : WrongOk Γ := by
  unfold WrongOk
  rw [h1, h2]
  refine ⟨fun _ _ => rfl, fun k n y len c p code w => ?_⟩
  have hA : Below w.heap.size w (w.alloc (.cells #[.int .i64 k, .string ⟨n.toArray⟩, .slice y len c, .int .i64 p] 53)) := (Below.refl _ _).alloc (Nat.le_refl _) _
  go_enter Tryz.func78, Tryz.ntmps78
  go_wp2_with fail
  go_end0
  exact .inl ⟨trivial, rfl, hA⟩
def GoneEnd (all : Bool) (l : List Nd) (w : World) (e : Ending) (w' : World) : Prop :=
  (∃ wb eb cb, e = .returned (.pointer (some ⟨wb, 0, none⟩)) ∧ w'.cell? ⟨wb, 5, none⟩ = some (.map (some eb)) ∧ w'.cell? ⟨wb, 6, none⟩ = some (.map (some cb)) ∧ CntMap w' eb (missE (evX l)) ∧ CntMap w' cb (calledE (evX l)) ∧ (all = true ∨ wrongE (evX l) = none) ∧ Below w.heap.size w w') ∨
  (all = false ∧ ∃ c n p b, wrongE (evX l) = some (c, n, p) ∧ w.heap.size ≤ b ∧ e = .panicked [{ v := .iface 23 (.pointer (some ⟨b, 0, none⟩)), recovered := false }] ∧ w'.heap[b]? = some (.cells #[.int .i64 c, .int .i64 p, .string ⟨n.toArray⟩] 61 (0, 0)) ∧ Below w.heap.size w w')
set_option maxHeartbeats 4000000 in
set_option maxRecDepth 100000 in
theorem gone_any (wf : Nat) (all : Bool) (hw : ∀ Γ : SCtx, Γ.wf = wf → Γ.all = all → WrongOk Γ) (l : List Nd) (hs : wtL l < 2 ^ 38) (hx : stsR l = true) (ok : Nat → Prop) (y : Option Addr) (c : Nat) (w : World) (hrow : NdRow w ok l y) (hok : ∀ b, ok b → b < w.heap.size) :
    Calls Tryz.prog 74 #[.slice y l.length c, .func (.func wf) #[] #[]] w (GoneEnd all l w) := by
  have hmm := @run_makeMap Tryz.prog
  have cf := functions_any
  have cm := modules_any
  have HROW := Lib.hid hrow
  have HW := Lib.hid hw
  clear hrow hw
  go_enter Tryz.func74, Tryz.ntmps74
  go_wp2_with (first | (go_at_call 132; refine (cf _).mono ?_; rintro e w1 ⟨fb, rfl, hf1, hf2, hf3⟩) | (go_at_call 133; refine (cm _).mono ?_; rintro e w2 ⟨mb, rfl, hm1, hm2, hm3⟩))
  obtain ⟨s2, hs2⟩ : ∃ s, w2.heap.size = s := ⟨_, rfl⟩
  have hz1 := World.size_alloc w2 (.map #[] 0)
  have hz2 := World.size_alloc (w2.alloc (.map #[] 0)) (.map #[] 0)
  have hz3 := World.size_alloc ((w2.alloc (.map #[] 0)).alloc (.map #[] 0)) (.cells #[.map none, .map (some fb), .map (some mb), .int .i64 0, .func (.func wf) #[] #[], .map (some s2), .map (some (s2 + 1))] 121)
  rw [hs2] at hz1 ⊢
  rw [hz1] at hz2
  rw [hz2] at hz3
  obtain ⟨W, hW⟩ : ∃ W, ((w2.alloc (.map #[] 0)).alloc (.map #[] 0)).alloc (.cells #[.map none, .map (some fb), .map (some mb), .int .i64 0, .func (.func wf) #[] #[], .map (some s2), .map (some (s2 + 1))] 121) = W := ⟨_, rfl⟩
  have hblk : W.heap[s2 + 1 + 1]? = some (.cells #[.map none, .map (some fb), .map (some mb), .int .i64 0, .func (.func wf) #[] #[], .map (some s2), .map (some (s2 + 1))] 121 (0, 0)) := by
    rw [← hW]
    have := heap_alloc_new ((w2.alloc (.map #[] 0)).alloc (.map #[] 0)) (.cells #[.map none, .map (some fb), .map (some mb), .int .i64 0, .func (.func wf) #[] #[], .map (some s2), .map (some (s2 + 1))] 121)
    rwa [hz2] at this
  have hb2 : Below s2 w2 W := by
    rw [← hW]
    exact (((Below.refl _ _).alloc (by omega) _).alloc (by rw [hz1]; omega) _).alloc (by rw [hz2]; omega) _
  have hbe : W.heap[s2]? = some (.map #[] 0) := by
    rw [← hW]
    refine (Below.heap_alloc _ _ _ (by rw [hz2]; omega)).trans ((Below.heap_alloc _ _ _ (by rw [hz1]; omega)).trans ?_)
    have := heap_alloc_new w2 (.map #[] 0)
    rwa [hs2] at this
  have hbc : W.heap[s2 + 1]? = some (.map #[] 0) := by
    rw [← hW]
    refine (Below.heap_alloc _ _ _ (by rw [hz2]; omega)).trans ?_
    have := heap_alloc_new (w2.alloc (.map #[] 0)) (.map #[] 0)
    rwa [hz1] at this
  have hcnt : ∀ b, W.heap[b]? = some (.map #[] 0) → CntMap W b [] := fun b hb => by
    obtain ⟨es, clock, h1, h2, h3, h4⟩ := World.ownsMap_made (H := Unit) w2 Tryz.prog 9 (plainElem Tryz.prog 3)
    rw [(MapKept.heap_alloc w2 _).1] at h1
    cases h1
    exact ⟨_, ⟨_, _, hb, h2, h3, h4⟩, CntD.nil⟩
  have hbw : Below w.heap.size w W := (hf3.trans (hm3.mono hf3.size)).trans (hb2.mono (by have := hf3.size; have := hm3.size; omega))
  have h12 := hm3.size
  have h01 := hf3.size
  have hfl := hf2.lt
  have hml := hm2.lt
  have hws : WSt ⟨s2 + 1 + 1, fb, mb, s2, s2 + 1, wf, all⟩ W 0 [] := by
    refine ⟨hblk, (hf2.keep (hm3.block _ hfl)).keep (hb2.block _ (by omega)), hm2.keep (hb2.block _ (by omega)), hcnt _ hbe, hcnt _ hbc, ?_, ?_, ?_, ?_, ?_⟩
    · show s2 + 1 + 1 ≠ s2
      omega
    · show s2 + 1 + 1 ≠ s2 + 1
      omega
    · show s2 ≠ s2 + 1
      omega
    · rintro (h | h | h) <;> (dsimp only at h; omega)
    · rintro (h | h | h) <;> (dsimp only at h; omega)
  have hnm : ∀ b, MayT ⟨s2 + 1 + 1, fb, mb, s2, s2 + 1, wf, all⟩ b → w.heap.size ≤ b := by
    rintro b (h | h | h) <;> (dsimp only at h; omega)
  have hrow' : NdRow W (fun b => ¬ MayT ⟨s2 + 1 + 1, fb, mb, s2, s2 + 1, wf, all⟩ b) l y := NdRow.mono (fun k hk _ hm => by have := hnm k hm; have := hok k hk; omega) (fun k _ hk => hbw.block k hk) _ _ HROW.out
  have hl1 := evSs_len l [none] 0
  have cb := sblock_any ⟨s2 + 1 + 1, fb, mb, s2, s2 + 1, wf, all⟩ (HW.out _ rfl rfl) l (by omega) hx W 0 [] [] y c _ hrow' rfl hws (by omega) (by simp only [List.length_nil]; omega)
  rw [hW]
  refine cb.mono ?_
  have HBW := Lib.hid hbw
  have HNM := Lib.hid hnm
  clear cb hws hrow' hl1 hbw hnm hcnt hbe hbc hblk hb2 hW hz1 hz2 hz3 hf1 hf2 hf3 hm1 hm2 hm3 cf cm hmm
  rintro e w4 (⟨rfl, hall, hst, how⟩ | ⟨h0, cc, nn, pp, bb, h1, h2, rfl, h4, h5⟩)
  · have hbel : Below w.heap.size w w4 := HBW.out.trans ⟨how.os, how.tape, how.output, by have := HBW.out.size; have := how.size; omega, fun k hk => how.block k (by have := HBW.out.size; omega) (fun hm => by have := HNM.out k hm; omega)⟩
    have HS := Lib.hid hst
    have HBL := Lib.hid hbel
    have HALL := Lib.hid hall
    clear hst how hbel hall
    go_wp2_with fail
    go_ret
    obtain ⟨-, -, -, -, -, c5, c6, -⟩ := HS.out.cells
    refine .inl ⟨_, _, _, rfl, c5, c6, ?_, ?_, HALL.out, HBL.out⟩
    · exact HS.out.fre
    · exact HS.out.cal
  · exact ⟨rfl, .inr ⟨h0, cc, nn, pp, bb, h1, Nat.le_trans HBW.out.size h2, rfl, h4, HBW.out.trans ⟨h5.os, h5.tape, h5.output, by have := HBW.out.size; have := h5.size; omega, fun k hk => h5.block k (by have := HBW.out.size; omega) (fun hm => by have := HNM.out k hm; omega)⟩⟩⟩
end Go.Proofs.YtpbkeamjdolpgaaGreatDoor
namespace Go.Proofs.YtpbkeamjdolpgaaGreatDoor
open Go.RowKit Go.Lib

theorem Tryz.noFaultE (w : World) : (Instr.typeAssert .nilIface 20 23 true).run Tryz.prog w = .ok (.tuple #[.pointer none, .bool false]) w := by kernel_rfl
set_option maxHeartbeats 400000 in
set_option maxRecDepth 100000 in
theorem sdoor_dies (pe : Nat) (v1 : Value) (b : Nat) (w : World) (hc1 : w.cell? ⟨pe, 0, none⟩ = some v1) (hz1 : w.frozen? ⟨pe, 0, none⟩ = false) :
    CallsD Tryz.prog 73 #[.pointer (some ⟨pe, 0, none⟩)] (.panicking ({ v := .iface 23 (.pointer (some ⟨b, 0, none⟩)), recovered := false } :: [])) w fun e u' w' =>
      e = .returned (.tuple #[]) ∧ u' = .panicking ({ v := .iface 23 (.pointer (some ⟨b, 0, none⟩)), recovered := true } :: []) ∧ w' = w.setCell ⟨pe, 0, none⟩ (.iface 23 (.pointer (some ⟨b, 0, none⟩))) := by
  have hTA := Tryz.isFaultE
  refine callsD_of_wpS Tryz.func73 rfl fun c₀ cs hu => ?_
  apply wpS_seq
  apply wpS_region
  simp [wpOpsS, go_sem, recoverD, hu, Tryz.ntmps73, Exit.thenS, hTA]
  refine wpS_of_wp ?_
  clear hu
  refine Code.wp_mono (Q := DoorQ (w.setCell ⟨pe, 0, none⟩ (.iface 23 (.pointer (some ⟨b, 0, none⟩))))) ?_ ?_
  · rintro e a' w' ⟨rfl, hd, rfl⟩
    exact ⟨hd, _, rfl, .tuple #[], by simp [results, Tryz.results73], rfl, rfl, rfl⟩
  · clear cs c₀
    have e : (#[Value.pointer (some ⟨pe, 0, none⟩)] ++ (((((((Array.replicate 10 undef).setIfInBounds 3 (Value.iface 23 (Value.pointer (some ⟨b, 0, none⟩)))).setIfInBounds 4 (Value.tuple #[Value.pointer (some ⟨b, 0, none⟩), Value.bool true])).setIfInBounds 2 (Value.tuple #[Value.pointer (some ⟨b, 0, none⟩), Value.bool true])).setIfInBounds 5 (Value.pointer (some ⟨b, 0, none⟩))).setIfInBounds 6 (Value.bool true)).setIfInBounds 0 (Value.pointer (some ⟨b, 0, none⟩))).setIfInBounds 1 (Value.bool true) : Array Value) =
      #[Value.pointer (some ⟨pe, 0, none⟩), Value.pointer (some ⟨b, 0, none⟩), Value.bool true, Value.tuple #[Value.pointer (some ⟨b, 0, none⟩), Value.bool true], Value.iface 23 (Value.pointer (some ⟨b, 0, none⟩)), Value.tuple #[Value.pointer (some ⟨b, 0, none⟩), Value.bool true], Value.pointer (some ⟨b, 0, none⟩), Value.bool true, undef, undef, undef] := by kernel_rfl
    rw [e]
    clear e
    go_wp2_with fail
    exact ⟨rfl, rfl, rfl⟩
theorem sdoor_idle (pe : Nat) (w : World) :
    CallsD Tryz.prog 73 #[.pointer (some ⟨pe, 0, none⟩)] .returning w fun e u' w' => e = .returned (.tuple #[]) ∧ u' = .returning ∧ w' = w := by
  have hTA := Tryz.noFaultE
  refine callsD_of_wpS Tryz.func73 rfl fun c₀ cs hu => ?_
  apply wpS_seq
  apply wpS_region
  simp [wpOpsS, go_sem, recoverD, hu, Tryz.ntmps73, Exit.thenS, hTA]
  refine wpS_of_wp ?_
  refine Code.wp_mono (Q := DoorQ w) ?_ ?_
  · rintro e a' w' ⟨rfl, hd, rfl⟩
    refine ⟨hd, .returning, ?_, .tuple #[], by simp [results, Tryz.results73], rfl, rfl, rfl⟩
    cases c₀
    simp_all
  · clear hu cs c₀
    have e : (#[Value.pointer (some ⟨pe, 0, none⟩)] ++ (((((((Array.replicate 10 undef).setIfInBounds 3 Value.nilIface).setIfInBounds 4 (Value.tuple #[Value.pointer none, Value.bool false])).setIfInBounds 2 (Value.tuple #[Value.pointer none, Value.bool false])).setIfInBounds 5 (Value.pointer none)).setIfInBounds 6 (Value.bool false)).setIfInBounds 0 (Value.pointer none)).setIfInBounds 1 (Value.bool false) : Array Value) =
      #[Value.pointer (some ⟨pe, 0, none⟩), Value.pointer none, Value.bool false, Value.tuple #[Value.pointer none, Value.bool false], Value.nilIface, Value.tuple #[Value.pointer none, Value.bool false], Value.pointer none, Value.bool false, undef, undef, undef] := by kernel_rfl
    rw [e]
    clear e
    go_wp2_with fail
    exact ⟨rfl, rfl, rfl⟩
theorem res_err {fn : Func} {p : Tmp} (hr : fn.results = #[.cell p 36]) {tmps : Array Value} {w : World} {a : Nat} {v0 : Value} (hp : tmps.getD p undef = .pointer (some ⟨a, 0, none⟩)) (c0 : w.cell? ⟨a, 0, none⟩ = some v0) : (results fn tmps).run Tryz.prog w = .ok v0 w := by
  have hp' : tmps[p]?.getD undef = .pointer (some ⟨a, 0, none⟩) := by simpa using hp
  simp [results, hr, hp', go_sem, c0]
def ScEnd (l : List Nd) (w : World) (e : Ending) (w' : World) : Prop := Below w.heap.size w w' ∧
  ((checkR l ≠ 0 ∧ e = .returned (.iface 30 (.int .i64 (checkR l)))) ∨ (checkR l = 0 ∧ wrongE (evX l) = none ∧ e = .returned .nilIface) ∨
  (checkR l = 0 ∧ ∃ c n p b, wrongE (evX l) = some (c, n, p) ∧ w.heap.size ≤ b ∧ e = .returned (.iface 23 (.pointer (some ⟨b, 0, none⟩))) ∧ w'.heap[b]? = some (.cells #[.int .i64 c, .int .i64 p, .string ⟨n.toArray⟩] 61 (0, 0))))
theorem checkR_ok {l : List Nd} (h : checkR l = 0) : stsR l = true := by
  unfold checkR at h
  split at h
  · cases h
  · split at h
    · assumption
    · cases h
set_option maxHeartbeats 4000000 in
set_option maxRecDepth 100000 in
theorem scheck_any (l : List Nd) (hs : wtL l < 2 ^ 38) (ok : Nat → Prop) (y : Option Addr) (c : Nat) (w : World) (hG : Gl w) (hrow : NdRow w ok l y) (hok : ∀ b, ok b → b < w.heap.size) :
    Calls Tryz.prog 37 #[.slice y l.length c] w (ScEnd l w) := by
  have hmf : ∀ (fn : Fn) (first cap : Array Value) (w : World), (Instr.makeFunc fn first cap).run Tryz.prog w = .ok (.func fn first cap) w := fun _ _ _ _ => rfl
  have hA : Below w.heap.size w (w.alloc (.cells #[.nilIface] 36)) := (Below.refl _ _).alloc (Nat.le_refl _) _
  have hz := World.size_alloc w (.cells #[.nilIface] 36)
  have hE : (w.alloc (.cells #[.nilIface] 36)).heap[w.heap.size]? = some (.cells #[.nilIface] 36 (0, 0)) := heap_alloc_new w _
  have c0 := check_any ok l (by omega) y c _ (hG.below hA) (hrow.below hA)
  have HE : Hid (∀ w1, Below (w.alloc (.cells #[.nilIface] 36)).heap.size (w.alloc (.cells #[.nilIface] 36)) w1 → w1.heap[w.heap.size]? = some (.cells #[.nilIface] 36 (0, 0)) ∧ Below w.heap.size w w1 ∧ w.heap.size < w1.heap.size) := fun w1 hb => ⟨(hb.block _ (by rw [hz]; omega)).trans hE, hA.trans (hb.mono (by rw [hz]; omega)), by have := hb.size; omega⟩
  have HROW := Lib.hid hrow
  have HOK := Lib.hid hok
  clear hE hA hz hG hrow hok
  go_enter_defers Tryz.func37, Tryz.ntmps37
  go_wp2_with fail
  refine c0.mono ?_
  clear c0
  rintro e w1 ⟨rfl, hb1⟩
  obtain ⟨he1, hb1', hl1⟩ := HE.out w1 hb1
  have e1 := cell_of_one he1
  have e2 := free_of_one he1
  have HB1 := Lib.hid hb1'
  have HE1 := Lib.hid he1
  clear HE hb1 hb1' he1
  obtain ⟨R, hR⟩ : ∃ R, checkR l = R := ⟨_, rfl⟩
  rw [hR]
  have HR := Lib.hid hR
  clear hR
  by_cases hR0 : R = 0
  · have Q : (R != 0) = false := by simp [hR0]
    have HR0 : Hid (checkR l = 0) := Lib.hid (HR.out.trans hR0)
    have cg := gone_any 75 false (fun Γ => wrong_stop Γ) l hs (checkR_ok HR0.out) ok y c w1 (HROW.out.below HB1.out) (fun b hb => Nat.lt_trans (HOK.out b hb) hl1)
    clear hR0 HR
    go_wp2_with fail
    refine cg.mono ?_
    clear cg e1 e2
    rintro e w2 (⟨wb, eb, cb, rfl, h1, h2, h3, h4, h5, h6⟩ | ⟨-, cc, nn, pp, b, h1, h2, rfl, h3, h4⟩)
    · have he2 := (h6.block _ hl1).trans HE1.out
      have e1 := cell_of_one he2
      have e2 := free_of_one he2
      have HW : Hid (wrongE (evX l) = none) := Lib.hid (h5.resolve_left (by simp))
      have HB2 : Hid (Below w.heap.size w w2) := Lib.hid (HB1.out.trans (h6.mono (Nat.le_of_lt hl1)))
      have HE2 := Lib.hid he2
      clear h1 h2 h3 h4 h5 h6 he2
      go_wp2_with fail
      show Leaves _ _ _ _ _ _ _
      refine leaves_cons (f := 73) (args := #[.pointer (some ⟨w.heap.size, 0, none⟩)]) (by simp) (by simp [go_sem]) ?_
      refine (sdoor_idle w.heap.size _).mono ?_
      rintro e u' w'' ⟨rfl, rfl, rfl⟩
      show Leaves _ _ _ _ [] .returning _
      exact ⟨_, res_err rfl rfl (cell_of_one (t := 36) (one_setCell HE2.out)), HB2.out.setCell (p := ⟨w.heap.size, 0, none⟩) (Nat.le_refl _) _, .inr (.inl ⟨HR0.out, HW.out, rfl⟩)⟩
    · have he2 := (h4.block _ hl1).trans HE1.out
      have e1 := cell_of_one he2
      have e2 := free_of_one he2
      have HB2 : Hid (Below w.heap.size w w2) := Lib.hid (HB1.out.trans (h4.mono (Nat.le_of_lt hl1)))
      show Leaves _ _ _ _ _ _ _
      refine leaves_cons (f := 73) (args := #[.pointer (some ⟨w.heap.size, 0, none⟩)]) (by simp) (by simp [go_sem]) ?_
      refine (sdoor_dies w.heap.size _ b _ e1 e2).mono ?_
      rintro e u' w'' ⟨rfl, rfl, rfl⟩
      show Leaves _ _ _ _ [] .returning _
      refine ⟨_, res_err rfl rfl (cell_of_one (t := 36) (one_setCell he2)), HB2.out.setCell (p := ⟨w.heap.size, 0, none⟩) (Nat.le_refl _) _, .inr (.inr ⟨HR0.out, cc, nn, pp, b, h1, by omega, rfl, ?_⟩)⟩
      exact (Below.heap_setCell _ _ _ _ (show b ≠ w.heap.size by omega)).trans h3
  · have Q : (R != 0) = true := by simp [hR0]
    have HR0 : Hid (R ≠ 0) := Lib.hid hR0
    clear hR0
    go_wp2_with fail
    refine ⟨.iface 30 (.int .i64 R), res_err rfl rfl (cell_of_one (t := 36) (one_setCell HE1.out)), HB1.out.setCell (p := ⟨w.heap.size, 0, none⟩) (Nat.le_refl _) _, .inl ⟨?_, ?_⟩⟩
    · rw [HR.out]; exact HR0.out
    · rw [HR.out]
end Go.Proofs.YtpbkeamjdolpgaaGreatDoor
namespace Go.Proofs.YtpbkeamjdolpgaaGreatDoor
open Go.RowKit Go.Lib

def NamesEnd (l : List (List UInt8)) (w : World) (e : Ending) (w' : World) : Prop := ∃ v, e = .returned v ∧ w'.ownsRow w.heap.size 9 1 v l.length (l.map encStr) ∧ Below w.heap.size w w'
def sfreeR (l : List Nd) : List (List UInt8) := if checkR l = 0 then risL (missE (evX l)) else []
def scallR (l : List Nd) : List (List UInt8) := if checkR l = 0 then risL (calledE (evX l)) else []
theorem ownsRow_low {w : World} {B B' : Nat} {t : TypeId} {s n : Nat} {v : Value} {xs : List Value} (h : w.ownsRow B t s v n xs) (hB : B' ≤ B) : w.ownsRow B' t s v n xs := by
  refine ⟨h.1, ?_⟩
  rcases h.2 with h1 | ⟨g, cap, cur, h1, h2, h3⟩
  · exact .inl h1
  · exact .inr ⟨g, cap, cur, h1, Nat.le_trans hB h2, h3⟩
set_option maxHeartbeats 4000000 in
set_option maxRecDepth 100000 in
theorem sfree_any (l : List Nd) (hs : wtL l < 2 ^ 38) (ok : Nat → Prop) (y : Option Addr) (c : Nat) (w : World) (hG : Gl w) (hrow : NdRow w ok l y) (hok : ∀ b, ok b → b < w.heap.size) :
    Calls Tryz.prog 40 #[.slice y l.length c] w (NamesEnd (sfreeR l) w) := by
  have c0 := check_any ok l (by omega) y c w hG hrow
  have HROW := Lib.hid hrow
  have HOK := Lib.hid hok
  clear hG hrow hok
  obtain ⟨R, hR⟩ : ∃ R, checkR l = R := ⟨_, rfl⟩
  rw [hR] at c0
  have HR := Lib.hid hR
  clear hR
  go_enter Tryz.func40, Tryz.ntmps40
  go_wp2_with fail
  refine c0.mono ?_
  clear c0
  rintro e w1 ⟨rfl, hb1⟩
  by_cases hR0 : R = 0
  · have Q : (R != 0) = false := by simp [hR0]
    have HR0 : Hid (checkR l = 0) := Lib.hid (HR.out.trans hR0)
    have cg := gone_any 77 true (fun Γ => wrong_free Γ) l hs (checkR_ok HR0.out) ok y c w1 (HROW.out.below hb1) (fun b hb => Nat.lt_of_lt_of_le (HOK.out b hb) hb1.size)
    have HB1 := Lib.hid hb1
    clear hR0 HR hb1
    go_wp2_with fail
    refine cg.mono ?_
    clear cg
    rintro e w2 (⟨wb, eb, cb, rfl, h1, h2, h3, h4, h5, h6⟩ | ⟨h0, -⟩)
    · have hl := missE_len (evX l)
      have hl2 := evSs_len l [none] 0
      have cr := rising_any eb _ (by unfold evX at hl; unfold evX; omega) w2 h3
      have HB2 : Hid (Below w.heap.size w w2) := Lib.hid (HB1.out.trans (h6.mono HB1.out.size))
      clear h3 h4 h5 h6 hl hl2
      go_wp2_with fail
      refine cr.mono ?_
      clear cr
      rintro e w3 ⟨v, rfl, hown, hb3⟩
      have HO := Lib.hid hown
      have HB3 : Hid (Below w.heap.size w w3) := Lib.hid (HB2.out.trans (hb3.mono HB2.out.size))
      have HSZ := Lib.hid HB2.out.size
      clear hown hb3 h1 h2
      go_wp2_with fail
      go_ret
      refine ⟨v, rfl, ?_, HB3.out⟩
      unfold sfreeR
      rw [if_pos HR0.out]
      exact ownsRow_low HO.out HSZ.out
    · cases h0
  · have Q : (R != 0) = true := by simp [hR0]
    have HR0 : Hid (R ≠ 0) := Lib.hid hR0
    have HB1 := Lib.hid hb1
    clear hR0 hb1
    go_wp2_with fail
    go_ret
    refine ⟨_, rfl, ?_, HB1.out⟩
    unfold sfreeR
    rw [if_neg (by rw [HR.out]; exact HR0.out)]
    exact World.ownsRow_nil _ _ _ _
set_option maxHeartbeats 4000000 in
set_option maxRecDepth 100000 in
theorem scall_any (l : List Nd) (hs : wtL l < 2 ^ 38) (ok : Nat → Prop) (y : Option Addr) (c : Nat) (w : World) (hG : Gl w) (hrow : NdRow w ok l y) (hok : ∀ b, ok b → b < w.heap.size) :
    Calls Tryz.prog 42 #[.slice y l.length c] w (NamesEnd (scallR l) w) := by
  have c0 := check_any ok l (by omega) y c w hG hrow
  have HROW := Lib.hid hrow
  have HOK := Lib.hid hok
  clear hG hrow hok
  obtain ⟨R, hR⟩ : ∃ R, checkR l = R := ⟨_, rfl⟩
  rw [hR] at c0
  have HR := Lib.hid hR
  clear hR
  go_enter Tryz.func42, Tryz.ntmps42
  go_wp2_with fail
  refine c0.mono ?_
  clear c0
  rintro e w1 ⟨rfl, hb1⟩
  by_cases hR0 : R = 0
  · have Q : (R != 0) = false := by simp [hR0]
    have HR0 : Hid (checkR l = 0) := Lib.hid (HR.out.trans hR0)
    have cg := gone_any 78 true (fun Γ => wrong_calls Γ) l hs (checkR_ok HR0.out) ok y c w1 (HROW.out.below hb1) (fun b hb => Nat.lt_of_lt_of_le (HOK.out b hb) hb1.size)
    have HB1 := Lib.hid hb1
    clear hR0 HR hb1
    go_wp2_with fail
    refine cg.mono ?_
    clear cg
    rintro e w2 (⟨wb, eb, cb, rfl, h1, h2, h3, h4, h5, h6⟩ | ⟨h0, -⟩)
    · have hl := calledE_len (evX l)
      have hl2 := evSs_len l [none] 0
      have cr := rising_any cb _ (by unfold evX at hl; unfold evX; omega) w2 h4
      have HB2 : Hid (Below w.heap.size w w2) := Lib.hid (HB1.out.trans (h6.mono HB1.out.size))
      clear h3 h4 h5 h6 hl hl2
      go_wp2_with fail
      refine cr.mono ?_
      clear cr
      rintro e w3 ⟨v, rfl, hown, hb3⟩
      have HO := Lib.hid hown
      have HB3 : Hid (Below w.heap.size w w3) := Lib.hid (HB2.out.trans (hb3.mono HB2.out.size))
      have HSZ := Lib.hid HB2.out.size
      clear hown hb3 h1 h2
      go_wp2_with fail
      go_ret
      refine ⟨v, rfl, ?_, HB3.out⟩
      unfold scallR
      rw [if_pos HR0.out]
      exact ownsRow_low HO.out HSZ.out
    · cases h0
  · have Q : (R != 0) = true := by simp [hR0]
    have HR0 : Hid (R ≠ 0) := Lib.hid hR0
    have HB1 := Lib.hid hb1
    clear hR0 hb1
    go_wp2_with fail
    go_ret
    refine ⟨_, rfl, ?_, HB1.out⟩
    unfold scallR
    rw [if_neg (by rw [HR.out]; exact HR0.out)]
    exact World.ownsRow_nil _ _ _ _
end Go.Proofs.YtpbkeamjdolpgaaGreatDoor
namespace Go.Proofs.YtpbkeamjdolpgaaGreatDoor
open Go.RowKit Go.Lib Go.Extern.Stop Go.Stop Go.Extern

set_option maxHeartbeats 4000000 in
set_option maxRecDepth 100000 in
theorem stold_hit (c p : Int) (T : ByteArray) (b1 b2 : Nat) (w : World) (hE : GlE w) (h1 : w.heap[b1]? = some (.cells #[.int .i64 c, .int .i64 p, .string T] 61 (0, 0))) (h2 : w.heap[b2]? = some (.cells #[.int .i64 c, .int .i64 p, .string T] 61 (0, 0))) :
    Calls Tryz.prog 39 #[.iface 23 (.pointer (some ⟨b1, 0, none⟩)), .pointer (some ⟨b2, 0, none⟩)] w fun e w' => e = .returned (.bool true) ∧ Below w.heap.size w w' := by
  have hb0 : Below w.heap.size w (w.alloc (.cells #[.pointer none] 23)) := (Below.refl _ _).alloc (Nat.le_refl _) _
  have cA := as_hit2 ⟨b1, 0, none⟩ ⟨w.heap.size, 0, none⟩ (.pointer none) (w.alloc (.cells #[.pointer none] 23)).drew (hE.below hb0.drew) (by simp) (by simp)
  have hl1 : b1 < w.heap.size := (Array.getElem?_eq_some_iff.1 h1).1
  have hl2 : b2 < w.heap.size := (Array.getElem?_eq_some_iff.1 h2).1
  have hk : ∀ w3 : World, (∀ k, k ≠ w.heap.size → k < (w.alloc (.cells #[.pointer none] 23)).drew.heap.size → w3.heap[k]? = (w.alloc (.cells #[.pointer none] 23)).drew.heap[k]?) →
      (w3.cell? ⟨b1, 0, none⟩ = some (.int .i64 c) ∧ w3.cell? ⟨b1, 1, none⟩ = some (.int .i64 p) ∧ w3.cell? ⟨b1, 2, none⟩ = some (.string T)) ∧
      (w3.cell? ⟨b2, 0, none⟩ = some (.int .i64 c) ∧ w3.cell? ⟨b2, 1, none⟩ = some (.int .i64 p) ∧ w3.cell? ⟨b2, 2, none⟩ = some (.string T)) := by
    intro w3 h
    have g1 := h b1 (by omega) (by simp; omega)
    have g2 := h b2 (by omega) (by simp; omega)
    rw [heap_drew, Below.heap_alloc _ _ _ hl1, h1] at g1
    rw [heap_drew, Below.heap_alloc _ _ _ hl2, h2] at g2
    exact ⟨⟨cell_of_row w3 b1 0 _ _ _ g1, cell_of_row w3 b1 1 _ _ _ g1, cell_of_row w3 b1 2 _ _ _ g1⟩, ⟨cell_of_row w3 b2 0 _ _ _ g2, cell_of_row w3 b2 1 _ _ _ g2, cell_of_row w3 b2 2 _ _ _ g2⟩⟩
  clear h1 h2 hE
  go_enter Tryz.func39, Tryz.ntmps39
  go_wp2_with fail
  go_region_with (first | (go_at_call 61; (with_reducible refine cA.mono ?_); rintro e w3 ⟨rfl, ha1, ha2, ha3⟩; obtain ⟨⟨r0, r1, r2⟩, ⟨s0, s1, s2⟩⟩ := hk w3 ha3; clear ha3) | (go_at_call 62; refine (is_fault b1 c _ (by assumption)).mono ?_; rintro e w4 ⟨rfl, rfl⟩))
  all_goals go_wp2
  all_goals go_ret
  all_goals exact ⟨rfl, hb0.drew.trans (by assumption)⟩
end Go.Proofs.YtpbkeamjdolpgaaGreatDoor
namespace Go.Proofs.YtpbkeamjdolpgaaGreatDoor

end Go.Proofs.YtpbkeamjdolpgaaGreatDoor
namespace Go.Proofs.YtpbkeamjdolpgaaGreatDoor
open Go.RowKit Go.Lib Go.Shelf Go.Sort

end Go.Proofs.YtpbkeamjdolpgaaGreatDoor
namespace Go.Proofs.YtpbkeamjdolpgaaGreatDoor

def TkOk (ts : List Tk) : Prop := ∀ t ∈ ts, (t.1 = 0 → resv t.2.1 = false → plainR t.2.1 = true) ∧ (t.1 = 1 → numR t.2.1 = true) ∧ t.2.1.length ≤ 65536
theorem name_of_word {s : List UInt8} (h : wordL s = (0, s.length)) (h0 : 0 < s.length) : nameL s = s.length := by
  unfold wordL at h
  by_cases h1 : 0 < nameL s
  · rw [if_pos h1] at h
    exact (Prod.mk.injEq _ _ _ _ ▸ h).2
  · rw [if_neg h1] at h
    by_cases h2 : 0 < numL s
    · rw [if_pos h2] at h; cases h
    · rw [if_neg h2] at h
      by_cases h3 : 0 < signL s
      · rw [if_pos h3] at h; cases h
      · rw [if_neg h3] at h
        have := (Prod.mk.injEq _ _ _ _ ▸ h : _ ∧ _).2
        omega
theorem num_of_word {s : List UInt8} (h : wordL s = (1, s.length)) (h0 : 0 < s.length) (hs : skipL s = 0) (hl : s.length ≤ 65536) : numR s = true := by
  have h1 : Sc (s ++ []) ((1, s) :: []) := Sc.word h (List.length_pos_iff.1 h0) hs (fun c hc => by cases hc) Sc.nil
  rw [List.append_nil] at h1
  obtain ⟨us, h2, h3⟩ := h1.all hl (by simp)
  unfold numR
  rw [h2]
  have hl : us.length = 1 := by simpa using congrArg List.length h3
  obtain ⟨t, rfl⟩ := List.length_eq_one_iff.1 hl
  · have h4 : (t.1, t.2.1) = (1, s) := by simpa [kt] using h3
    have e1 : t.1 = 1 := congrArg Prod.fst h4
    have e2 : t.2.1 = s := congrArg Prod.snd h4
    show (decide (t.1 = 1) && decide (t.2.1 = s)) = true
    rw [e1, e2]
    simp
theorem tkOk_of {s : List UInt8} {ts : List Tk} (h : tokensL s = .ok ts) : TkOk ts := by
  intro t ht
  have hlen : t.2.1.length ≤ 65536 := by
    have h1 : s.length ≤ 65536 := by
      unfold tokensL at h
      split at h
      · cases h
      · omega
    obtain ⟨i, hi, rfl⟩ := List.mem_iff_getElem.1 ht
    have := tokensL_at s ts h i _ (List.getElem?_eq_getElem hi)
    omega
  have hw : wordL t.2.1 = (t.1, t.2.1.length) ∧ 0 < t.2.1.length ∧ skipL t.2.1 = 0 := by
    unfold tokensL at h
    split at h
    · cases h
    · exact toksL_ok _ _ _ _ _ (skip_idem false s) h t ht
  refine ⟨fun h0 hr => ?_, fun h1 => num_of_word (by rw [← h1]; exact hw.1) hw.2.1 hw.2.2 hlen, hlen⟩
  have hn := name_of_word (by rw [← h0]; exact hw.1) hw.2.1
  unfold plainR
  rw [hn, hr]
  simp
  exact hw.2.1

theorem ex_num {s : List UInt8} {p : Int} (h : numR s = true) : exR (.mk 9 s [] p) = true := by rw [exR_eq, if_pos rfl, h]; rfl
theorem ex_name {s : List UInt8} {p : Int} (h : plainR s = true) : exR (.mk 10 s [] p) = true := by rw [exR_eq, if_neg (by decide), if_pos rfl, h]; rfl
theorem ex_list {l : List Nd} {p : Int} (h : ∀ x ∈ l, exR x = true) : exR (.mk 11 [] l p) = true := by
  rw [exR_eq, if_neg (by decide), if_neg (by decide), if_pos rfl, exsR_of h]
  rfl
theorem ex_one {s : List UInt8} {x : Nd} {p : Int} (h : s = [45] ∨ s = [33]) (hx : exR x = true) : exR (.mk 12 s [x] p) = true := by
  rw [exR_eq, if_neg (by decide), if_neg (by decide), if_neg (by decide), if_pos rfl, if_pos (show [x].length = 1 from rfl), exsR_of (l := [x]) (by simpa using hx)]
  rcases h with rfl | rfl <;> rfl
theorem ex_two {s : List UInt8} {x y : Nd} {p : Int} (h : 0 < levelS s) (hx : exR x = true) (hy : exR y = true) : exR (.mk 12 s [x, y] p) = true := by
  rw [exR_eq, if_neg (by decide), if_neg (by decide), if_neg (by decide), if_pos rfl, if_neg (by simp), exsR_of (l := [x, y]) (by simp [hx, hy])]
  simp [h]
theorem part_args {l : List Nd} {p : Int} (h : ∀ x ∈ l, exR x = true) : partR (.mk 8 [] l p) = true := by
  rw [partR, exsR_of h]
  rfl
theorem part_block {l : List Nd} {p : Int} (h : ∀ x ∈ l, stR x = true) : partR (.mk 0 [] l p) = true := by
  rw [partR, stsR_of h]
  rfl
theorem parsR_of : ∀ {l : List Nd}, (∀ x ∈ l, x.kind = 10 ∧ exR x = true) → parsR l = true
  | [], _ => rfl
  | x :: r, h => by
    rw [parsR, (h x (by simp)).1, (h x (by simp)).2, parsR_of fun y hy => h y (by simp [hy])]
    rfl
theorem part_params {l : List Nd} {p : Int} (h : ∀ x ∈ l, x.kind = 10 ∧ exR x = true) : partR (.mk 4 [] l p) = true := by
  rw [partR, parsR_of h]
  rfl
theorem sh_nil : shR [] [] = true := by rw [shR]
theorem sh_ex {x : Nd} {ws : List Int} {r : List Nd} (h : exR x = true) (hr : shR ws r = true) : shR (-1 :: ws) (x :: r) = true := by
  rw [shR, h, hr]
  rfl
theorem sh_part {w k : Int} {n : List UInt8} {l : List Nd} {p : Int} {ws : List Int} {r : List Nd} (hk : k = w) (h0 : ¬ w < 0) (h : partR (.mk k n l p) = true) (hr : shR ws r = true) : shR (w :: ws) (.mk k n l p :: r) = true := by
  rw [shR, h, hr, if_neg h0]
  show (decide (k = w) && true && true) = true
  rw [hk]
  simp
theorem ex_apply {s : List UInt8} {l : List Nd} {p q : Int} (h : plainR s = true) (hl : ∀ x ∈ l, exR x = true) : exR (.mk 13 s [.mk 8 [] l q] p) = true := by
  rw [exR_eq, if_neg (by decide), if_neg (by decide), if_neg (by decide), if_neg (by decide), if_pos rfl, h, sh_part rfl (by decide) (part_args hl) sh_nil]
  rfl
theorem ex_index {x y : Nd} {p : Int} (hx : exR x = true) (hy : exR y = true) : exR (.mk 14 [] [x, y] p) = true := by
  rw [exR_eq, if_neg (by decide), if_neg (by decide), if_neg (by decide), if_neg (by decide), if_neg (by decide), if_pos rfl, exsR_of (l := [x, y]) (by simp [hx, hy])]
  rfl
theorem ex_pick {x y z : Nd} {p : Int} (hx : exR x = true) (hy : exR y = true) (hz : exR z = true) : exR (.mk 15 [] [x, y, z] p) = true := by
  rw [exR_eq, if_neg (by decide), if_neg (by decide), if_neg (by decide), if_neg (by decide), if_neg (by decide), if_neg (by decide), if_pos rfl, exsR_of (l := [x, y, z]) (by simp [hx, hy, hz])]
  rfl

def Rt (P : Nd → Prop) (p : Nat) (R : Res Nd) : Prop := ∀ x q, R = .ok x q → 65537 * p + wtN x ≤ 65537 * q ∧ P x
def Ex (x : Nd) : Prop := exR x = true
theorem wtL_snoc (l : List Nd) (x : Nd) : wtL (l ++ [x]) = wtL l + wtN x := by
  rw [wtL_app]
  show _ + (wtN x + 0) = _
  omega
theorem wtL_one (x : Nd) : wtL [x] = wtN x := rfl
theorem wtL_two (x y : Nd) : wtL [x, y] = wtN x + wtN y := rfl
theorem wtL_three (x y z : Nd) : wtL [x, y, z] = wtN x + (wtN y + wtN z) := rfl
section
variable {ts : List Tk} {L : Nat}
theorem text_le (hT : TkOk ts) (p : Nat) : (textT ts p).length ≤ 65536 := by
  unfold textT
  cases hp : ts[p]? with
  | none => exact Nat.zero_le _
  | some t => exact (hT t (List.mem_of_getElem? hp)).2.2
theorem rt_name (hT : TkOk ts) {p q : Nat} {s : List UInt8} (h : nameP ts p = .ok s q) : q = p + 1 ∧ s.length ≤ 65536 ∧ plainR s = true := by
  unfold nameP at h
  split at h
  · rename_i hn
    cases h
    refine ⟨rfl, text_le hT p, ?_⟩
    unfold namedT at hn
    simp only [Bool.and_eq_true, decide_eq_true_eq, Bool.not_eq_true'] at hn
    obtain ⟨h1, h2⟩ := hn
    unfold kindT at h1
    unfold textT at h2 ⊢
    cases hp : ts[p]? with
    | none => rw [hp] at h1; simp at h1
    | some t =>
      rw [hp] at h1 h2
      exact (hT t (List.mem_of_getElem? hp)).1 (by simpa using h1) h2
  · cases h
variable (hT : TkOk ts)
include hT
theorem rt_nameN (p : Nat) : Rt (fun x => x.kind = 10 ∧ exR x = true) p (nameN ts L p) := by
  intro x q h
  obtain ⟨s, r, h1, h2⟩ := bind_ok h
  obtain ⟨rfl, h3, h4⟩ := rt_name hT h1
  cases h2
  rw [wtN_mk]
  refine ⟨?_, rfl, ex_name h4⟩
  show 65537 * p + (0 + s.length + 1) ≤ 65537 * (p + 1)
  omega
omit hT in
theorem rt_rowM {P : Nd → Prop} {one : Nat → Res Nd} (h1 : ∀ p, Rt P p (one p)) {e : List UInt8} : ∀ (f : Nat) (acc : List Nd) (q : Nat) (l : List Nd) (r : Nat), rowM ts L one f e acc q = .ok l r → (∀ x ∈ acc, P x) → 65537 * q + wtL l + 1 ≤ 65537 * r + wtL acc ∧ ∀ x ∈ l, P x
  | 0, _, _, _, _, h, _ => by cases h
  | f + 1, acc, q, l, r, h, ha => by
    unfold rowM at h
    split at h
    · cases h; exact ⟨by omega, ha⟩
    · obtain ⟨_, r1, a1, h⟩ := bind_ok h
      obtain ⟨x, r2, a2, h⟩ := bind_ok h
      have := take_ok a1
      have h2 := h1 _ x r2 a2
      have h3 := rt_rowM h1 f (acc ++ [x]) r2 l r h (fun y hy => by
        rcases List.mem_append.1 hy with hy | hy
        · exact ha y hy
        · rw [List.mem_singleton.1 hy]; exact h2.2)
      rw [wtL_snoc] at h3
      exact ⟨by omega, h3.2⟩
omit hT in
theorem rt_rowG {P : Nd → Prop} {one : Nat → Res Nd} (h1 : ∀ p, Rt P p (one p)) {e : List UInt8} {f p : Nat} {l : List Nd} {r : Nat} (h : rowG ts L one f e p = .ok l r) : 65537 * p + wtL l + 1 ≤ 65537 * r ∧ ∀ x ∈ l, P x := by
  unfold rowG at h
  split at h
  · cases h
    refine ⟨?_, by simp⟩
    show 65537 * p + 0 + 1 ≤ 65537 * (p + 1)
    omega
  · obtain ⟨x, r2, a2, h⟩ := bind_ok h
    have h2 := h1 _ x r2 a2
    have h3 := rt_rowM h1 f [x] r2 l r h (by simpa using h2.2)
    rw [wtL_one] at h3
    exact ⟨by omega, h3.2⟩
theorem rt_params (f p : Nat) : Rt (fun x => ∃ l q, x = .mk 4 [] l q ∧ partR (.mk 4 [] l q) = true) p (paramsP ts L f p) := by
  intro x q h
  obtain ⟨_, r1, a1, h⟩ := bind_ok h
  obtain ⟨l, r2, a2, h⟩ := bind_ok h
  have := take_ok a1
  have h2 := rt_rowG (rt_nameN hT) a2
  cases h
  rw [wtN_mk]
  refine ⟨?_, l, _, rfl, part_params h2.2⟩
  have := h2.1
  simp only [List.length_nil]
  omega
variable {ex : Nat → Res Nd} (hx : ∀ p, Rt Ex p (ex p))
include hx
omit hT in
theorem rt_args (f p : Nat) : Rt (fun x => ∃ l q, x = .mk 8 [] l q ∧ ∀ y ∈ l, exR y = true) p (argsO ts L ex f p) := by
  intro x q h
  obtain ⟨_, r1, a1, h⟩ := bind_ok h
  obtain ⟨l, r2, a2, h⟩ := bind_ok h
  have := take_ok a1
  have h2 := rt_rowG hx a2
  cases h
  rw [wtN_mk]
  refine ⟨?_, l, _, rfl, h2.2⟩
  have := h2.1
  simp only [List.length_nil]
  omega
theorem rt_atom (f p : Nat) : Rt Ex p (atomO ts L ex f p) := by
  intro x q h
  unfold atomO at h
  split at h
  · obtain ⟨y, r1, a1, h⟩ := bind_ok h
    obtain ⟨_, r2, a2, h⟩ := bind_ok h
    have := take_ok a2
    have h2 := hx _ y r1 a1
    cases h
    exact ⟨by omega, h2.2⟩
  · split at h
    · obtain ⟨l, r1, a1, h⟩ := bind_ok h
      have h2 := rt_rowG hx a1
      cases h
      rw [wtN_mk]
      refine ⟨?_, ex_list h2.2⟩
      have := h2.1
      simp only [List.length_nil]
      omega
    · split at h
      · rename_i hk
        cases h
        rw [wtN_mk]
        have := text_le hT p
        refine ⟨?_, ex_num ?_⟩
        · show 65537 * p + (0 + (textT ts p).length + 1) ≤ 65537 * (p + 1)
          omega
        · unfold kindT at hk
          unfold textT
          cases hp : ts[p]? with
          | none => rw [hp] at hk; simp at hk
          | some t =>
            rw [hp] at hk
            exact (hT t (List.mem_of_getElem? hp)).2.1 (by simp at hk; omega)
      · obtain ⟨s, r1, a1, h⟩ := bind_ok h
        obtain ⟨rfl, h3, h4⟩ := rt_name hT a1
        split at h
        · obtain ⟨a, r2, a2, h⟩ := bind_ok h
          obtain ⟨h5, l, q1, rfl, h6⟩ := rt_args hx f _ a r2 a2
          cases h
          rw [wtN_mk, wtL_one]
          exact ⟨by omega, ex_apply h4 h6⟩
        · cases h
          rw [wtN_mk]
          refine ⟨?_, ex_name h4⟩
          show 65537 * p + (0 + s.length + 1) ≤ 65537 * (p + 1)
          omega
omit hT in
theorem rt_index : ∀ (f : Nat) (x : Nd) (q : Nat) (y : Nd) (r : Nat), indexL ts L ex f x q = .ok y r → exR x = true → 65537 * q + wtN y ≤ 65537 * r + wtN x ∧ exR y = true
  | 0, _, _, _, _, h, _ => by cases h
  | f + 1, x, q, y, r, h, h0 => by
    unfold indexL at h
    split at h
    · obtain ⟨z, r1, a1, h⟩ := bind_ok h
      obtain ⟨_, r2, a2, h⟩ := bind_ok h
      have := take_ok a2
      have h2 := hx _ z r1 a1
      have h3 := rt_index f _ r2 y r h (ex_index h0 h2.2)
      rw [wtN_mk, wtL_two] at h3
      simp only [List.length_nil] at h3
      exact ⟨by omega, h3.2⟩
    · cases h; exact ⟨by omega, h0⟩
theorem rt_unary (F : Nat) : ∀ (f p : Nat), Rt Ex p (unaryL ts L ex F f p)
  | 0, _ => fun _ _ h => by cases h
  | f + 1, p => by
    intro x q h
    unfold unaryL at h
    split at h
    · rename_i hs
      obtain ⟨y, r1, a1, h⟩ := bind_ok h
      have h2 := rt_unary F f _ y r1 a1
      cases h
      rw [wtN_mk, wtL_one]
      have := text_le hT p
      refine ⟨by omega, ex_one ?_ h2.2⟩
      unfold isT at hs
      simp only [Bool.or_eq_true, Bool.and_eq_true, decide_eq_true_eq] at hs
      rcases hs with hs | hs
      · exact .inl hs.1
      · exact .inr hs.1
    · obtain ⟨y, r1, a1, h⟩ := bind_ok h
      have h2 := rt_atom hT hx F p y r1 a1
      have h3 := rt_index hx F y r1 x q h h2.2
      exact ⟨by omega, h3.2⟩
omit hT hx in
theorem any_level {p k : Nat} (hk : k < 5) (h : anyT ts p (signsK k) = true) : 0 < levelS (textT ts p) := by
  obtain ⟨s, h1, h2⟩ := List.any_eq_true.1 h
  unfold isT at h2
  simp only [Bool.and_eq_true, decide_eq_true_eq] at h2
  rw [h2.1]
  clear h h2
  have e : ∀ k, k < 5 → ∀ s ∈ signsK k, 0 < levelS s := by decide
  exact e k hk s h1
omit hx in
theorem rt_levelM {tight : Nat → Res Nd} (ht : ∀ p, Rt Ex p (tight p)) (k : Nat) (hk : k < 5) : ∀ (f : Nat) (x : Nd) (q : Nat) (y : Nd) (r : Nat), levelM ts L tight k f x q = .ok y r → exR x = true → 65537 * q + wtN y ≤ 65537 * r + wtN x ∧ exR y = true
  | 0, _, _, _, _, h, _ => by cases h
  | f + 1, x, q, y, r, h, h0 => by
    unfold levelM at h
    split at h
    · rename_i hs
      obtain ⟨z, r1, a1, h⟩ := bind_ok h
      have h2 := ht _ z r1 a1
      have h3 := text_le hT q
      have h4 := ex_two (p := (placeT ts L q : Int)) (any_level hk hs) h0 h2.2
      split at h
      · cases h
        rw [wtN_mk, wtL_two]
        exact ⟨by omega, h4⟩
      · have h5 := rt_levelM ht k hk f _ r1 y r h h4
        rw [wtN_mk, wtL_two] at h5
        exact ⟨by omega, h5.2⟩
    · cases h; exact ⟨by omega, h0⟩
theorem rt_lev (f : Nat) : ∀ (d p : Nat), Rt Ex p (levO ts L ex f d p)
  | 0, p => rt_unary hT hx f f p
  | d + 1, p => by
    intro x q h
    obtain ⟨y, r1, a1, h⟩ := bind_ok h
    have h2 := rt_lev f d p y r1 a1
    have h3 := rt_levelM hT (rt_lev f d) _ (by omega) f y r1 x q h h2.2
    exact ⟨by omega, h3.2⟩
theorem rt_exprO (f p : Nat) : Rt Ex p (exprO ts L ex f p) := by
  intro x q h
  unfold exprO at h
  obtain ⟨y, r1, a1, h⟩ := bind_ok h
  have h1 := rt_lev hT hx f 5 p y r1 a1
  split at h
  · obtain ⟨z, r2, a2, h⟩ := bind_ok h
    obtain ⟨_, r3, a3, h⟩ := bind_ok h
    obtain ⟨u, r4, a4, h⟩ := bind_ok h
    have h2 := hx _ z r2 a2
    have := take_ok a3
    have h3 := hx _ u r4 a4
    cases h
    rw [wtN_mk, wtL_three]
    refine ⟨?_, ex_pick h1.2 h2.2 h3.2⟩
    simp only [List.length_nil]
    omega
  · cases h; exact h1
omit hx in
theorem rt_expr : ∀ (f p : Nat), Rt Ex p (exprP ts L f p)
  | 0, _ => fun _ _ h => by cases h
  | f + 1, p => rt_exprO hT (rt_expr f) f p
variable {st : Nat → Res Nd} (hs : ∀ p, Rt (fun x => stR x = true) p (st p))
include hs
omit hx hT in
theorem rt_blockL : ∀ (f : Nat) (acc : List Nd) (q : Nat) (l : List Nd) (r : Nat), blockL ts st f acc q = .ok l r → (∀ x ∈ acc, stR x = true) → 65537 * q + wtL l + 1 ≤ 65537 * r + wtL acc ∧ ∀ x ∈ l, stR x = true
  | 0, _, _, _, _, h, _ => by cases h
  | f + 1, acc, q, l, r, h, ha => by
    unfold blockL at h
    split at h
    · cases h; exact ⟨by omega, ha⟩
    · obtain ⟨x, r2, a2, h⟩ := bind_ok h
      have h2 := hs _ x r2 a2
      have h3 := rt_blockL f (acc ++ [x]) r2 l r h (fun y hy => by
        rcases List.mem_append.1 hy with hy | hy
        · exact ha y hy
        · rw [List.mem_singleton.1 hy]; exact h2.2)
      rw [wtL_snoc] at h3
      exact ⟨by omega, h3.2⟩
omit hx hT in
theorem rt_block (f p : Nat) : Rt (fun x => ∃ l q, x = .mk 0 [] l q ∧ partR (.mk 0 [] l q) = true) p (blockO ts L st f p) := by
  intro x q h
  obtain ⟨_, r1, a1, h⟩ := bind_ok h
  obtain ⟨l, r2, a2, h⟩ := bind_ok h
  have := take_ok a1
  have h2 := rt_blockL hs f [] r1 l r2 a2 (by simp)
  have e : wtL ([] : List Nd) = 0 := rfl
  cases h
  rw [wtN_mk]
  refine ⟨?_, l, _, rfl, part_block h2.2⟩
  simp only [List.length_nil]
  omega
omit hs hx hT in
theorem st_eq (k : Int) {s : List UInt8} {l : List Nd} {p : Int} (hk : k ≠ 6) (h : plainR s = true) (ws : List Int) (e : (if k = 1 then shR [-1] l else if k = 2 then shR [4, 0] l else if k = 3 then shR [4, -1] l else if k = 5 then shR [-1, 0] l else if k = 7 then shR (if l.length = 1 then [8] else [8, 0]) l else false) = shR ws l) (hl : shR ws l = true) : stR (.mk k s l p) = true := by
  rw [stR_eq, if_neg hk, h, e, hl]
  rfl
theorem rt_stmtO (f p : Nat) : Rt (fun x => stR x = true) p (stmtO ts L ex st f p) := by
  intro x q h
  unfold stmtO at h
  split at h
  · obtain ⟨s, r1, a1, h⟩ := bind_ok h
    obtain ⟨y, r2, a2, h⟩ := bind_ok h
    obtain ⟨z, r3, a3, h⟩ := bind_ok h
    obtain ⟨rfl, k1, k2⟩ := rt_name hT a1
    obtain ⟨h1, l, q1, rfl, h2⟩ := rt_params hT f _ y r2 a2
    obtain ⟨h3, b, q2, rfl, h4⟩ := rt_block hs f _ z r3 a3
    cases h
    rw [wtN_mk, wtL_two]
    exact ⟨by omega, st_eq 2 (by decide) k2 [4, 0] rfl (sh_part rfl (by decide) h2 (sh_part rfl (by decide) h4 sh_nil))⟩
  · split at h
    · obtain ⟨s, r1, a1, h⟩ := bind_ok h
      obtain ⟨y, r2, a2, h⟩ := bind_ok h
      obtain ⟨_, r3, a3, h⟩ := bind_ok h
      obtain ⟨z, r4, a4, h⟩ := bind_ok h
      obtain ⟨_, r5, a5, h⟩ := bind_ok h
      obtain ⟨rfl, k1, k2⟩ := rt_name hT a1
      obtain ⟨h1, l, q1, rfl, h2⟩ := rt_params hT f _ y r2 a2
      have := take_ok a3
      have h3 := hx _ z r4 a4
      have := take_ok a5
      cases h
      rw [wtN_mk, wtL_two]
      exact ⟨by omega, st_eq 3 (by decide) k2 [4, -1] rfl (sh_part rfl (by decide) h2 (sh_ex h3.2 sh_nil))⟩
    · split at h
      · obtain ⟨_, r1, a1, h⟩ := bind_ok h
        obtain ⟨s, r2, a2, h⟩ := bind_ok h
        obtain ⟨_, r3, a3, h⟩ := bind_ok h
        obtain ⟨y, r4, a4, h⟩ := bind_ok h
        obtain ⟨_, r5, a5, h⟩ := bind_ok h
        obtain ⟨z, r6, a6, h⟩ := bind_ok h
        have := take_ok a1
        obtain ⟨rfl, k1, k2⟩ := rt_name hT a2
        have := take_ok a3
        have h3 := hx _ y r4 a4
        have := take_ok a5
        obtain ⟨h5, b, q2, rfl, h4⟩ := rt_block hs f _ z r6 a6
        cases h
        rw [wtN_mk, wtL_two]
        exact ⟨by omega, st_eq 5 (by decide) k2 [-1, 0] rfl (sh_ex h3.2 (sh_part rfl (by decide) h4 sh_nil))⟩
      · split at h
        · obtain ⟨_, r1, a1, h⟩ := bind_ok h
          obtain ⟨y, r2, a2, h⟩ := bind_ok h
          obtain ⟨_, r3, a3, h⟩ := bind_ok h
          obtain ⟨z, r4, a4, h⟩ := bind_ok h
          have := take_ok a1
          have h3 := hx _ y r2 a2
          have := take_ok a3
          obtain ⟨h5, b, q2, rfl, h4⟩ := rt_block hs f _ z r4 a4
          split at h
          · obtain ⟨u, r5, a5, h⟩ := bind_ok h
            obtain ⟨h6, b', q3, rfl, h7⟩ := rt_block hs f _ u r5 a5
            cases h
            rw [wtN_mk, wtL_three]
            refine ⟨?_, ?_⟩
            · simp only [List.length_nil]
              omega
            · show stR _ = true
              rw [stR_eq, if_pos rfl, if_neg (by simp), sh_ex h3.2 (sh_part rfl (by decide) h4 (sh_part rfl (by decide) h7 sh_nil))]
              rfl
          · cases h
            rw [wtN_mk, wtL_two]
            refine ⟨?_, ?_⟩
            · simp only [List.length_nil]
              omega
            · show stR _ = true
              rw [stR_eq, if_pos rfl, if_pos (show [y, Nd.mk 0 [] b q2].length = 2 from rfl), sh_ex h3.2 (sh_part rfl (by decide) h4 sh_nil)]
              rfl
        · obtain ⟨s, r1, a1, h⟩ := bind_ok h
          obtain ⟨rfl, k1, k2⟩ := rt_name hT a1
          split at h
          · obtain ⟨y, r2, a2, h⟩ := bind_ok h
            obtain ⟨_, r3, a3, h⟩ := bind_ok h
            have h3 := hx _ y r2 a2
            have := take_ok a3
            cases h
            rw [wtN_mk, wtL_one]
            exact ⟨by omega, st_eq 1 (by decide) k2 [-1] rfl (sh_ex h3.2 sh_nil)⟩
          · obtain ⟨y, r2, a2, h⟩ := bind_ok h
            obtain ⟨h5, l, q1, rfl, h6⟩ := rt_args hx f _ y r2 a2
            have h7 := part_args (p := q1) h6
            split at h
            · obtain ⟨z, r3, a3, h⟩ := bind_ok h
              obtain ⟨h8, b, q2, rfl, h4⟩ := rt_block hs f _ z r3 a3
              cases h
              rw [wtN_mk, wtL_two]
              exact ⟨by omega, st_eq 7 (by decide) k2 [8, 0] rfl (sh_part rfl (by decide) h7 (sh_part rfl (by decide) h4 sh_nil))⟩
            · obtain ⟨_, r3, a3, h⟩ := bind_ok h
              have := take_ok a3
              cases h
              rw [wtN_mk, wtL_one]
              exact ⟨by omega, st_eq 7 (by decide) k2 [8] rfl (sh_part rfl (by decide) h7 sh_nil)⟩
omit hx hs in
theorem rt_stmt (F : Nat) : ∀ (f p : Nat), Rt (fun x => stR x = true) p (stmtP ts L F f p)
  | 0, _ => fun _ _ h => by cases h
  | f + 1, p => rt_stmtO hT (rt_expr hT F) (rt_stmt F f) F p
omit hx hs in
theorem rt_stmts (F : Nat) : ∀ (f : Nat) (acc : List Nd) (q : Nat) (l : List Nd) (r : Nat), stmtsP ts L F f acc q = .ok l r → (∀ x ∈ acc, stR x = true) → 65537 * q + wtL l ≤ 65537 * r + wtL acc ∧ ∀ x ∈ l, stR x = true
  | 0, _, _, _, _, h, _ => by cases h
  | f + 1, acc, q, l, r, h, ha => by
    unfold stmtsP at h
    split at h
    · cases h; exact ⟨by omega, ha⟩
    · obtain ⟨x, r2, a2, h⟩ := bind_ok h
      have h2 := rt_stmt hT F F q x r2 a2
      have h3 := rt_stmts F f (acc ++ [x]) r2 l r h (fun y hy => by
        rcases List.mem_append.1 hy with hy | hy
        · exact ha y hy
        · rw [List.mem_singleton.1 hy]; exact h2.2)
      rw [wtL_snoc] at h3
      exact ⟨by omega, h3.2⟩
end
theorem parse_right {s : List UInt8} {l : List Nd} (h : parseR s = .ok l) : checkR l = 0 ∧ wtL l ≤ 268500000 := by
  unfold parseR at h
  cases ht : tokensL s with
  | error f => rw [ht] at h; cases h
  | ok ts =>
    rw [ht] at h
    have h : parseT ts s.length = .ok l := h
    unfold parseT at h
    have hn := tokensL_len _ _ ht
    have hT := tkOk_of ht
    cases hp : stmtsP ts s.length 8192 8192 [] 0 with
    | out => rw [hp] at h; cases h
    | bad q => rw [hp] at h; cases h
    | ok m q =>
      rw [hp] at h
      have hg := gd_stmts (ts := ts) (L := s.length) (F := 8192) (by omega) 8192 [] 0 (Nat.zero_le _) (by omega)
      rw [hp] at hg
      have hq : q ≤ ts.length := hg.2
      have h2 := rt_stmts hT 8192 8192 [] 0 m q hp (by simp)
      have e : wtL ([] : List Nd) = 0 := rfl
      dsimp only at h
      cases hd : deepL m 1 with
      | some x => rw [hd] at h; cases h
      | none =>
        rw [hd] at h
        cases h
        refine ⟨?_, by omega⟩
        unfold checkR
        rw [hd, stsR_of h2.2]
        rfl
end Go.Proofs.YtpbkeamjdolpgaaGreatDoor
namespace Go.Proofs.YtpbkeamjdolpgaaGreatDoor
open Go.RowKit Go.Lib Go.Shelf Go.Sort

end Go.Proofs.YtpbkeamjdolpgaaGreatDoor
namespace Go.Proofs.YtpbkeamjdolpgaaGreatDoor
open Go.ChangeShapes Go.WideShapes Go.RowKit Go.Lib Go.ChangeAt Go.Deep

instance : Inhabited Nd := ⟨.mk 0 [] [] 0⟩
end Go.Proofs.YtpbkeamjdolpgaaGreatDoor
