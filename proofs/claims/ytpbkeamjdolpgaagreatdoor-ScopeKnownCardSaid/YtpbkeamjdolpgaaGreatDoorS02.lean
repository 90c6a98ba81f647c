/- The walk of scope's expressions. The walk of scope's expressions, of any size; of its blocks, by its statements'. The walk of scope's call of a module. -/
import Derived.Test.YtpbkeamjdolpgaaGreatDoorS01
import Derived.Deep.QuietTactic
import Derived.BigQuiet
import Derived.Deep.CutRange
import Derived.Deep.CutBlock
import Derived.Test.YtpbkeamjdolpgaaGreatDoorB04
namespace Go.Proofs.YtpbkeamjdolpgaaGreatDoor
open Go.RowKit Go.Lib
open Go.Maps (Keyed)

/-- What is built in by a name. -/
theorem TkMap.look {w : World} {b : Nat} {f : List UInt8 → Option (Nat × Bool)} (h : TkMap w b f) (s : List UInt8) (hs : s.length ≤ maxLen) :
    ∃ (x : Int) (z : Bool), (Instr.lookup 117 (.map (some b)) (.string ⟨s.toArray⟩) true).run Tryz.prog w = .ok (.tuple #[.agg #[.int .i64 x, .bool z], .bool (f s).isSome]) w ∧ ∀ a bl, f s = some (a, bl) → x = a ∧ z = bl := by
  obtain ⟨n, D, _, ho, hD⟩ := h
  obtain ⟨v, ps, h1, h2⟩ := ho.look_ok Tryz.kStr Tryz.underlying117 (Tryz.zeroTakes w) (tkElem_mk 0 false) (key_str s hs)
  obtain ⟨x, z, rfl, h3⟩ := tkElem_inv h2
  obtain ⟨h4, h5⟩ := hD.2 s
  refine ⟨x, z, by rw [h1, h4], fun a bl e => ?_⟩
  rw [h5 a bl e] at h3
  simp at h3
  exact ⟨h3.1.1.symm, h3.1.2.symm⟩
theorem evEs_app (ρ : Env) : ∀ a b : List Nd, evEs ρ (a ++ b) = evEs ρ a ++ evEs ρ b
  | [], _ => rfl
  | x :: r, b => by
    rw [List.cons_append, evEs, evEs, evEs_app ρ r b, List.append_assoc]
theorem evEs_snoc (ρ : Env) (a : List Nd) (x : Nd) : evEs ρ (a ++ [x]) = evEs ρ a ++ evE ρ x := by
  rw [evEs_app]
  show evEs ρ a ++ (evE ρ x ++ []) = _
  rw [List.append_nil]
/-- What the walk of an expression promises. -/
def ExprOk (Γ : SCtx) (x : Nd) : Prop := ∀ (w : World) (m : Nat) (ev : List Ev) (ρ : Env) (v u : Value), NdVal w (fun b => ¬ MayT Γ b) x v → EnvAt w (MayT Γ) ρ u → WSt Γ w m ev → ev.length + (evE ρ x).length < 2 ^ 40 →
  Calls Tryz.prog 204 #[.pointer (some ⟨Γ.wb, 0, none⟩), v, u] w (SEnd Γ w m ev (evE ρ x))
set_option maxHeartbeats 4000000 in
set_option maxRecDepth 100000 in
theorem sexpr_step (Γ : SCtx) (hw : WrongOk Γ) (k : Int) (n : List UInt8) (kids : List Nd) (p : Int) (hn : n.length < 2 ^ 40) (hk : kids.length < 2 ^ 40) (hr : k = 13 → kids ≠ []) (ih : ∀ x ∈ kids, ExprOk Γ x) : ExprOk Γ (.mk k n kids p) := by
  intro w m ev ρ v u hv hu h hl
  obtain ⟨y, cv, rfl, hrow⟩ := hv
  generalize cv.val = c
  clear cv
  have hA : Below w.heap.size w (w.alloc (.cells #[.int .i64 k, .string ⟨n.toArray⟩, .slice y kids.length c, .int .i64 p] 53)) := (Below.refl _ _).alloc (Nat.le_refl _) _
  obtain ⟨F, cap, rfl, eg, -⟩ := env_any _ ρ u w hu
  have H0 := Lib.hid (SOk.start h hA)
  have HB := Lib.hid (Box4.new w (.int .i64 k) (.string ⟨n.toArray⟩) (.slice y kids.length c) (.int .i64 p))
  have HROW := Lib.hid hrow
  have HENV := Lib.hid hu
  have HW := Lib.hid hw
  have HIH := Lib.hid ih
  have HL := Lib.hid hl
  have HN := Lib.hid hn
  have HR := Lib.hid hr
  have HA := Lib.hid hA
  have HMAY := Lib.hid h.may
  clear hA hrow hu hw ih hl hn hr h
  go_enter Tryz.func204, Tryz.ntmps204
  go_upto_region 1 with (fail)
  obtain ⟨a, ha⟩ : ∃ a, w.heap.size = a := ⟨_, rfl⟩
  rw [ha] at HB ⊢
  have HAA := Lib.hid ha
  clear ha
  generalize World.alloc w (.cells #[.int .i64 k, .string ⟨n.toArray⟩, .slice y kids.length c, .int .i64 p] 53) = W at HA H0 HB ⊢
  obtain ⟨x0, x1, x2, x3, xf⟩ := HB.out.facts
  obtain ⟨B10, hB10⟩ : ∃ B, ((k : Int) == 10) = B := ⟨_, rfl⟩
  obtain ⟨B13, hB13⟩ : ∃ B, ((k : Int) == 13) = B := ⟨_, rfl⟩
  go_upto_block 0 with fail
  have HB10 := Lib.hid hB10
  have HB13 := Lib.hid hB13
  clear hB10 x0 x1 x2 x3 xf
  go_cut [] from 14 to 83 (fun wx => SOk Γ w m ev (exprE ρ k n kids p) wx ∧ Box4 wx a (.int .i64 k) (.string ⟨n.toArray⟩) (.slice y kids.length c) (.int .i64 p))
  case first =>
    have haw : ∀ w1, Owp (MayT Γ) W w1 → Box4 w1 a (.int .i64 k) (.string ⟨n.toArray⟩) (.slice y kids.length c) (.int .i64 p) := fun w1 ho => (ho.block a HB.out.lt (fun hm => by have := HMAY.out a hm; have := HAA.out; omega)).trans HB.out
    have HAW := Lib.hid haw
    clear haw
    cases B10
    · cases B13
      · have hE : exprE ρ k n kids p = [] := by
          have h10 : k ≠ 10 := by have := HB10.out; simpa using this
          have h13 : k ≠ 13 := by have := HB13.out; simpa using this
          unfold exprE
          rw [if_neg h10, if_neg h13]
        have HE := Lib.hid hE
        have q10 : ((k : Int) == 10) = false := HB10.out
        clear hE
        go_wp2_with fail
        go_meet
        case rel =>
          rw [HE.out]
          exact ⟨H0.out, HB.out⟩
      · obtain rfl : k = 13 := by simpa using HB13.out
        obtain ⟨X0, r, rfl⟩ : ∃ X0 r, kids = X0 :: r := by
          cases kids with
          | nil => exact absurd rfl (HR.out rfl)
          | cons a b => exact ⟨a, b, rfl⟩
        obtain ⟨k0, m0, l0, p0⟩ := X0
        obtain ⟨B, o, rfl, hat, -⟩ := HROW.out
        obtain ⟨hokb, -, -, -, y0, cv0, hy2, -⟩ := hat
        generalize cv0.val = c0' at hy2
        clear cv0
        have HK0 : Hid (∀ w1, Owp (MayT Γ) W w1 → w1.cell? ⟨B, o + 2, none⟩ = some (.slice y0 l0.length c0')) := Lib.hid fun w1 ho => ho.cell (p := ⟨B, o + 2, none⟩) hokb.ok ((HA.out.cell (p := ⟨B, o + 2, none⟩) (World.block_lt_of_cell? w _ hy2)).trans hy2)
        clear hokb hy2
        have hEX : exprE ρ 13 n (.mk k0 m0 l0 p0 :: r) p = .call n :: (match (findE ρ 1 n false).or (fnB n) with
            | none => [.miss n p]
            | some a => if argc (.mk k0 m0 l0 p0 :: r) = a then [] else [.bad 281 n p]) := by
          unfold exprE
          rw [if_neg (by decide), if_pos rfl]
          rfl
        have HEX := Lib.hid hEX
        have HARG : Hid (argc (.mk k0 m0 l0 p0 :: r) = l0.length) := Lib.hid rfl
        clear hEX hB13
        have hW0 : WSt Γ W m ev := by
          have := H0.out.2.1
          rwa [List.append_nil] at this
        have HW0 := Lib.hid hW0
        obtain ⟨-, -, -, -, -, -, c6, -⟩ := hW0.cells
        obtain ⟨cv, w2, hlook, hupd, hgrow, hcnt⟩ := CntMap.inc (w := W.drew) (b := Γ.cb) (l := calledE ev) (hW0.cal.keep rfl) (Nat.lt_of_le_of_lt (calledE_len ev) (by have := HL.out; omega)) n (by have := HN.out; unfold maxLen; omega)
        obtain ⟨x0, x1, x2, x3, xf⟩ := HB.out.facts
        have H2 : Hid (WSt Γ w2 m (ev ++ [.call n])) := Lib.hid (WSt.called (w := W.drew) (hW0.same fun _ _ => rfl) hgrow hcnt)
        have HO2 : Hid (Owp (MayT Γ) W w2) := by
          have h1 : Owp (MayT Γ) W W.drew := Owp.of_below (Below.refl _ _).drew
          exact h1.trans ⟨hgrow.os, hgrow.tape, hgrow.output, hgrow.size, fun j hj hn => hgrow.block j hj (fun e => by cases e; exact hn (.inr (.inr rfl)))⟩
        have HB2 := Lib.hid (HAW.out w2 HO2.out)
        clear hcnt hW0
        go_upto_region 7 with (fail)
        go_still_tail 8, (by kernel_rfl)
        change wpList _ _ _ _ _ (World.drew W)
        go_upto_region 8 with (fail)
        clear hlook hupd hgrow c6 x0 x1 x2 x3 xf
        obtain ⟨x0, x1, x2, x3, xf⟩ := HB2.out.facts
        obtain ⟨F', cap', hf, -, hc⟩ := env_any _ ρ _ w2 ((HENV.out.below HA.out).owp HO2.out)
        cases hf
        have c0 := hc 1 n false
        unfold TkEnd at c0
        obtain ⟨tx, htx⟩ : ∃ x, tkA ρ 1 n false = x := ⟨_, rfl⟩
        obtain ⟨ty, hty⟩ : ∃ x, tkB ρ 1 n false = x := ⟨_, rfl⟩
        obtain ⟨tz, htz⟩ : ∃ x, (findE ρ 1 n false).isSome = x := ⟨_, rfl⟩
        rw [htx, hty, htz] at c0
        have HTX := Lib.hid htx
        have HTZ := Lib.hid htz
        clear hc htx hty htz
        go_wp2_with fail
        go_at_fn F
        refine c0.mono ?_
        clear c0 x0 x1 x2 x3 xf
        rintro e w3 ⟨rfl, hb3⟩
        have HW3 := Lib.hid (H2.out.below hb3)
        have HO3 := Lib.hid (HO2.out.below hb3)
        clear hb3 H2 HO2 HB2
        go_upto_region 9 with (fail)
        have hal : Below w3.heap.size w3 (w3.alloc (.cells #[.int .i64 tx, .bool ty] 171)) := (Below.refl _ _).alloc (Nat.le_refl _) _
        have HW4 := Lib.hid (HW3.out.below hal)
        have HO4 := Lib.hid (HO3.out.below hal)
        have HT4 := Lib.hid (Box2.new w3 (.int .i64 tx) (.bool ty))
        have hb8a : w.heap.size ≤ w3.heap.size ∧ W.heap.size ≤ w3.heap.size := ⟨Nat.le_trans HA.out.size HO3.out.size, HO3.out.size⟩
        obtain ⟨b8, hb8⟩ : ∃ b8, w3.heap.size = b8 := ⟨_, rfl⟩
        rw [hb8] at HT4 hb8a ⊢
        have HB8 := Lib.hid hb8a
        clear hal HW3 HO3 hb8 hb8a
        generalize World.alloc w3 (.cells #[.int .i64 tx, .bool ty] 171) = w4 at HW4 HO4 HT4 ⊢
        have HB4 := Lib.hid (HAW.out w4 HO4.out)
        cases tz
        · have hfn : findE ρ 1 n false = none := by
            have := HTZ.out
            cases h : findE ρ 1 n false with
            | none => rfl
            | some a => rw [h] at this; cases this
          have HFN := Lib.hid hfn
          clear hfn
          obtain ⟨-, c1, -, -, -, -, -, -⟩ := HW4.out.cells
          obtain ⟨lx, lz, hlook, hlk⟩ := TkMap.look (w := w4.drew) (HW4.out.fns.keep rfl) n (by have := HN.out; unfold maxLen; omega)
          have HLK := Lib.hid hlk
          obtain ⟨x0, x1, x2, x3, xf⟩ := HB4.out.facts
          have t0 : w4.cell? ⟨b8, 0, none⟩ = some (.int .i64 tx) := by simp [World.cell?, HT4.out]
          have t1 : w4.cell? ⟨b8, 1, none⟩ = some (.bool ty) := by simp [World.cell?, HT4.out]
          have tf : ∀ o, w4.frozen? ⟨b8, o, none⟩ = false := fun o => by simp only [World.frozen?, HT4.out]; simp
          obtain ⟨fz, hfz⟩ : ∃ x, ((fnB n).map fun x => (x, false)).isSome = x := ⟨_, rfl⟩
          rw [hfz] at hlook
          have HFZ := Lib.hid hfz
          clear hlk hfz
          go_upto_region 10 with (fail)
          go_region
          go_upto_region 11 with (fail)
          clear hlook c1 x0 x1 x2 x3 xf t0 t1 tf
          have hst : Ow b8 w4 (((World.setCell w4 ⟨b8, 0, none⟩ (.int .i64 lx)).setCell ⟨b8, 1, none⟩ (.bool lz)).drew) := ((((Ow.refl b8 w4).setCell (a := ⟨b8, 0, none⟩) (.inl rfl) _).setCell (a := ⟨b8, 1, none⟩) (.inl rfl) _)).drew
          have hkk : ∀ k, k ≠ b8 → (((World.setCell w4 ⟨b8, 0, none⟩ (.int .i64 lx)).setCell ⟨b8, 1, none⟩ (.bool lz)).drew).heap[k]? = w4.heap[k]? := fun k hk => (Below.heap_setCell _ _ _ _ hk).trans (Below.heap_setCell _ _ _ _ hk)
          have HW5 := Lib.hid (HW0.out.local HW4.out HB8.out.2 hkk)
          have HO5 := Lib.hid (HO4.out.fresh HB8.out.2 hst)
          have HT5 : Hid ((((World.setCell w4 ⟨b8, 0, none⟩ (.int .i64 lx)).setCell ⟨b8, 1, none⟩ (.bool lz)).drew).heap[b8]? = some (.cells #[.int .i64 lx, .bool lz] 171 (0, 0))) := by
            show ((World.setCell w4 ⟨b8, 0, none⟩ (.int .i64 lx)).setCell ⟨b8, 1, none⟩ (.bool lz)).heap[b8]? = _
            simp [World.setCell, Array.getElem?_modify, HT4.out]
          clear hst hkk HW4 HO4 HT4 HB4
          generalize World.drew ((World.setCell w4 ⟨b8, 0, none⟩ (.int .i64 lx)).setCell ⟨b8, 1, none⟩ (.bool lz)) = w5 at HW5 HO5 HT5 ⊢
          have HB5 := Lib.hid (HAW.out w5 HO5.out)
          cases fz
          · have hfb : fnB n = none := by
              have := HFZ.out
              cases h : fnB n with
              | none => rfl
              | some a => rw [h] at this; cases this
            have HE : Hid (exprE ρ 13 n (.mk k0 m0 l0 p0 :: r) p = [.call n] ++ [.miss n p]) := by
              show _ = _
              rw [HEX.out, HFN.out, hfb]
              rfl
            have hlen : (ev ++ [Ev.call n]).length < 2 ^ 40 := by
              have := HL.out
              rw [evE, HE.out] at this
              simp at this ⊢
              omega
            have cm := missing_any Γ HW.out m (ev ++ [.call n]) hlen 13 n HN.out (some ⟨B, o, none⟩) (Nd.mk k0 m0 l0 p0 :: r).length c p w5 HW5.out
            obtain ⟨x0, x1, x2, x3, xf⟩ := HB5.out.facts
            clear hfb hlen
            go_wp2_with fail
            refine cm.mono ?_
            clear cm x0 x1 x2 x3 xf
            have hpre : SOk Γ w m ev [.call n] w5 := ⟨.inr rfl, HW5.out, (Owp.of_below HA.out).trans HO5.out⟩
            have HPRE := Lib.hid hpre
            clear hpre
            rintro e w6 (⟨rfl, hok⟩ | hbad)
            · have HOK := Lib.hid (HPRE.out.trans hok)
              have HO6 := Lib.hid (HO5.out.trans hok.2.2)
              clear hok
              go_wp2_with fail
              go_meet
              case rel =>
                rw [HE.out]
                exact ⟨HOK.out, HAW.out w6 HO6.out⟩
            · have hb2 : SBad Γ w (evE ρ (.mk 13 n (.mk k0 m0 l0 p0 :: r) p)) e w6 := by
                rw [evE, HE.out]
                exact SBad.left (SBad.right HPRE.out hbad) _
              obtain ⟨ch, rfl⟩ := hbad.pan
              exact ⟨rfl, .inr hb2⟩
          · obtain ⟨fa, hfa⟩ : ∃ t, fnB n = some t := by
              have := HFZ.out
              cases h : fnB n with
              | none => rw [h] at this; cases this
              | some a => exact ⟨a, rfl⟩
            obtain ⟨rfl, -⟩ := HLK.out fa false (by rw [hfa]; rfl)
            have HFA : Hid ((findE ρ 1 n false).or (fnB n) = some fa) := by
              show _ = _
              rw [HFN.out, hfa]
              rfl
            clear hfa
            obtain ⟨L, hLL⟩ : ∃ L, l0.length = L := ⟨_, rfl⟩
            have HLL := Lib.hid hLL
            obtain ⟨E, hE⟩ : ∃ E, ((L : Int) != (fa : Int)) = E := ⟨_, rfl⟩
            have hEd : E = !decide (L = fa) := by
              rw [← hE]
              by_cases h : L = fa
              · subst h; simp
              · simp [h, bne]
                omega
            have HED := Lib.hid hEd
            clear hEd
            obtain ⟨x0, x1, x2, x3, xf⟩ := HB5.out.facts
            have t0 : w5.cell? ⟨b8, 0, none⟩ = some (.int .i64 (fa : Nat)) := by simp [World.cell?, HT5.out]
            have y2 := HK0.out w5 HO5.out
            rw [hLL] at y2
            clear hLL
            have hkl : 0 < r.length + 1 := Nat.succ_pos _
            go_upto_region 13 with (fail)
            go_quiet (fail)
            have HW7 : Hid (WSt Γ (w5.drewN nq) m (ev ++ [Ev.call n])) := Lib.hid (HW5.out.same fun _ _ => rfl)
            have HO7 : Hid (Owp (MayT Γ) W (w5.drewN nq)) := Lib.hid (HO5.out.below (bdn (Below.refl _ _) _))
            have HB7 : Hid (Box4 (w5.drewN nq) a (.int .i64 13) (.string ⟨n.toArray⟩) (.slice (some ⟨B, o, none⟩) (Nd.mk k0 m0 l0 p0 :: r).length c) (.int .i64 p)) := Lib.hid HB5.out
            clear x0 x1 x2 x3 xf t0 y2 hE hkl HW5 HO5 HB5 HT5
            generalize World.drewN w5 nq = w7 at HW7 HO7 HB7 ⊢
            obtain ⟨x0, x1, x2, x3, xf⟩ := HB7.out.facts
            have hXE : exprE ρ 13 n (.mk k0 m0 l0 p0 :: r) p = if L = fa then [Ev.call n] else [Ev.call n] ++ [.bad 281 n p] := by
              rw [HEX.out]
              have hargc : argc (.mk k0 m0 l0 p0 :: r) = L := HARG.out.trans HLL.out
              simp only [HFA.out, hargc]
              split <;> rfl
            have HXE := Lib.hid hXE
            clear hXE
            cases E
            · have hLa : L = fa := by have := HED.out; simpa using this
              have HLA := Lib.hid hLa
              clear hLa
              go_wp2_with fail
              go_meet
              case rel =>
                rw [HXE.out, if_pos HLA.out]
                exact ⟨⟨.inr rfl, HW7.out, (Owp.of_below HA.out).trans HO7.out⟩, HB7.out⟩
            · have hLa : ¬ L = fa := by have := HED.out; simpa using this
              have HLA := Lib.hid hLa
              clear hLa
              obtain ⟨-, -, -, -, c4, -, -, -⟩ := HW7.out.cells
              have hw2 := HW.out.2 13 n (some ⟨B, o, none⟩) (Nd.mk k0 m0 l0 p0 :: r).length c p 281 w7.drew
              have egw := HW.out.1
              go_upto_region 14 with (fail)
              go_still_tail 5, (by kernel_rfl)
              change wpList _ _ _ _ _ (World.drew w7)
              have HW8 : Hid (WSt Γ w7.drew m (ev ++ [Ev.call n])) := Lib.hid (HW7.out.same fun _ _ => rfl)
              have HO8 : Hid (Owp (MayT Γ) W w7.drew) := Lib.hid (HO7.out.below (Below.refl _ _).drew)
              clear HW7 HO7 HB7
              generalize World.drew w7 = w8 at *
              go_wp2_with fail
              go_at_fn Γ.wf
              refine hw2.mono ?_
              clear hw2 x0 x1 x2 x3 xf c4
              rintro e w9 (⟨ha, rfl, hb⟩ | ⟨ha, hb, b, hbl, rfl, hf⟩)
              · have HO9 := Lib.hid (HO8.out.below hb)
                have HOK : Hid (SOk Γ w m ev (exprE ρ 13 n (.mk k0 m0 l0 p0 :: r) p) w9) := by
                  show SOk _ _ _ _ _ _
                  rw [HXE.out, if_neg HLA.out]
                  refine ⟨.inl ha, ?_, (Owp.of_below HA.out).trans HO9.out⟩
                  rw [← List.append_assoc]
                  exact (HW8.out.below hb).badly _ _ _
                clear ha hb
                go_wp2_with fail
                go_meet
                case rel => exact ⟨HOK.out, HAW.out w9 HO9.out⟩
              · have HO9 := Lib.hid (HO8.out.below hb)
                refine ⟨rfl, .inr ?_⟩
                rw [evE, HXE.out, if_neg HLA.out]
                exact SBad.left ⟨ha, 281, n, p, b, rfl, by have := (Owp.of_below (P := MayT Γ) HA.out).trans HO8.out; have := this.size; omega, rfl, hf, (Owp.of_below HA.out).trans HO9.out⟩ _
        · obtain ⟨tw, htw⟩ : ∃ t, findE ρ 1 n false = some t := by
            have := HTZ.out
            cases h : findE ρ 1 n false with
            | none => rw [h] at this; cases this
            | some a => exact ⟨a, rfl⟩
          have hta : tx = tw := by rw [← HTX.out, tkA, htw]; rfl
          subst hta
          have HFA : Hid ((findE ρ 1 n false).or (fnB n) = some tx) := by
            show _ = _
            rw [htw]
            rfl
          clear htw
          obtain ⟨L, hLL⟩ : ∃ L, l0.length = L := ⟨_, rfl⟩
          have HLL := Lib.hid hLL
          obtain ⟨E, hE⟩ : ∃ E, ((L : Int) != (tx : Int)) = E := ⟨_, rfl⟩
          have hEd : E = !decide (L = tx) := by
            rw [← hE]
            by_cases h : L = tx
            · subst h; simp
            · simp [h, bne]
              omega
          have HED := Lib.hid hEd
          clear hEd
          obtain ⟨x0, x1, x2, x3, xf⟩ := HB4.out.facts
          have t0 : w4.cell? ⟨b8, 0, none⟩ = some (.int .i64 (tx : Nat)) := by simp [World.cell?, HT4.out]
          have y2 := HK0.out w4 HO4.out
          rw [hLL] at y2
          clear hLL
          have hkl : 0 < r.length + 1 := Nat.succ_pos _
          go_upto_region 13 with (fail)
          go_quiet (fail)
          have HW7 : Hid (WSt Γ (w4.drewN nq) m (ev ++ [Ev.call n])) := Lib.hid (HW4.out.same fun _ _ => rfl)
          have HO7 : Hid (Owp (MayT Γ) W (w4.drewN nq)) := Lib.hid (HO4.out.below (bdn (Below.refl _ _) _))
          have HB7 : Hid (Box4 (w4.drewN nq) a (.int .i64 13) (.string ⟨n.toArray⟩) (.slice (some ⟨B, o, none⟩) (Nd.mk k0 m0 l0 p0 :: r).length c) (.int .i64 p)) := Lib.hid HB4.out
          clear x0 x1 x2 x3 xf t0 y2 hE hkl HW4 HO4 HB4 HT4
          generalize World.drewN w4 nq = w7 at HW7 HO7 HB7 ⊢
          obtain ⟨x0, x1, x2, x3, xf⟩ := HB7.out.facts
          have hXE : exprE ρ 13 n (.mk k0 m0 l0 p0 :: r) p = if L = tx then [Ev.call n] else [Ev.call n] ++ [.bad 281 n p] := by
            rw [HEX.out]
            have hargc : argc (.mk k0 m0 l0 p0 :: r) = L := HARG.out.trans HLL.out
            simp only [HFA.out, hargc]
            split <;> rfl
          have HXE := Lib.hid hXE
          clear hXE
          cases E
          · have hLa : L = tx := by have := HED.out; simpa using this
            have HLA := Lib.hid hLa
            clear hLa
            go_wp2_with fail
            go_meet
            case rel =>
              rw [HXE.out, if_pos HLA.out]
              exact ⟨⟨.inr rfl, HW7.out, (Owp.of_below HA.out).trans HO7.out⟩, HB7.out⟩
          · have hLa : ¬ L = tx := by have := HED.out; simpa using this
            have HLA := Lib.hid hLa
            clear hLa
            obtain ⟨-, -, -, -, c4, -, -, -⟩ := HW7.out.cells
            have hw2 := HW.out.2 13 n (some ⟨B, o, none⟩) (Nd.mk k0 m0 l0 p0 :: r).length c p 281 w7.drew
            have egw := HW.out.1
            go_upto_region 14 with (fail)
            go_still_tail 5, (by kernel_rfl)
            change wpList _ _ _ _ _ (World.drew w7)
            have HW8 : Hid (WSt Γ w7.drew m (ev ++ [Ev.call n])) := Lib.hid (HW7.out.same fun _ _ => rfl)
            have HO8 : Hid (Owp (MayT Γ) W w7.drew) := Lib.hid (HO7.out.below (Below.refl _ _).drew)
            clear HW7 HO7 HB7
            generalize World.drew w7 = w8 at *
            go_wp2_with fail
            go_at_fn Γ.wf
            refine hw2.mono ?_
            clear hw2 x0 x1 x2 x3 xf c4
            rintro e w9 (⟨ha, rfl, hb⟩ | ⟨ha, hb, b, hbl, rfl, hf⟩)
            · have HO9 := Lib.hid (HO8.out.below hb)
              have HOK : Hid (SOk Γ w m ev (exprE ρ 13 n (.mk k0 m0 l0 p0 :: r) p) w9) := by
                show SOk _ _ _ _ _ _
                rw [HXE.out, if_neg HLA.out]
                refine ⟨.inl ha, ?_, (Owp.of_below HA.out).trans HO9.out⟩
                rw [← List.append_assoc]
                exact (HW8.out.below hb).badly _ _ _
              clear ha hb
              go_wp2_with fail
              go_meet
              case rel => exact ⟨HOK.out, HAW.out w9 HO9.out⟩
            · have HO9 := Lib.hid (HO8.out.below hb)
              refine ⟨rfl, .inr ?_⟩
              rw [evE, HXE.out, if_neg HLA.out]
              exact SBad.left ⟨ha, 281, n, p, b, rfl, by have := (Owp.of_below (P := MayT Γ) HA.out).trans HO8.out; have := this.size; omega, rfl, hf, (Owp.of_below HA.out).trans HO9.out⟩ _
    · clear hB13
      obtain rfl : k = 10 := by simpa using HB10.out
      have hE : exprE ρ 10 n kids p = if (findE ρ 0 n false).isNone && !truthB n then [.miss n p] else [] := by unfold exprE; rw [if_pos rfl]
      obtain ⟨F', cap', hf, -, hc⟩ := env_any _ ρ _ W (HENV.out.below HA.out)
      cases hf
      have c0 := hc 0 n false
      unfold TkEnd at c0
      obtain ⟨tx, htx⟩ : ∃ x, tkA ρ 0 n false = x := ⟨_, rfl⟩
      obtain ⟨ty, hty⟩ : ∃ x, tkB ρ 0 n false = x := ⟨_, rfl⟩
      obtain ⟨tz, htz⟩ : ∃ x, (findE ρ 0 n false).isSome = x := ⟨_, rfl⟩
      rw [htx, hty, htz] at c0
      have hnone : (findE ρ 0 n false).isNone = !tz := by rw [← htz]; cases findE ρ 0 n false <;> rfl
      rw [hnone] at hE
      have HE := Lib.hid hE
      clear hc htx hty htz hnone hE
      obtain ⟨x0, x1, x2, x3, xf⟩ := HB.out.facts
      go_wp2_with fail
      go_at_fn F
      refine c0.mono ?_
      clear c0 x0 x1 x2 x3 xf
      rintro e w1 ⟨rfl, hb1⟩
      have HW1 := Lib.hid (H0.out.2.1.below hb1)
      have HO1 : Hid (Owp (MayT Γ) W w1) := Lib.hid (Owp.of_below hb1)
      clear hb1
      go_upto_region 4 with (fail)
      have hal : Below w1.heap.size w1 (w1.alloc (.cells #[.int .i64 tx, .bool ty] 171)) := (Below.refl _ _).alloc (Nat.le_refl _) _
      have HW2 := Lib.hid (HW1.out.below hal)
      have HO2 := Lib.hid (HO1.out.below hal)
      clear hal HW1 HO1
      generalize World.alloc w1 (.cells #[.int .i64 tx, .bool ty] 171) = w2 at HW2 HO2 ⊢
      have HO : Hid (Owp (MayT Γ) w w2) := Lib.hid ((Owp.of_below HA.out).trans HO2.out)
      have HB2 := Lib.hid (HAW.out w2 HO2.out)
      obtain ⟨x0, x1, x2, x3, xf⟩ := HB2.out.facts
      rw [List.append_nil] at HW2
      cases tz
      · have ct := truth_any n w2
        obtain ⟨tb, htb⟩ : ∃ x, truthB n = x := ⟨_, rfl⟩
        rw [htb] at ct HE
        clear htb
        cases tb
        · have HE' : Hid (exprE ρ 10 n kids p = [.miss n p]) := HE.out
          go_wp2_with (first | (go_at_call 203; (with_reducible refine ct.mono ?_); rintro e w3 ⟨rfl, rfl⟩))
          have hlen : ev.length < 2 ^ 40 := by have := HL.out; omega
          have cm := missing_any Γ HW.out m ev hlen 10 n HN.out y kids.length c p w2 HW2.out
          clear hlen
          refine cm.mono ?_
          clear cm
          rintro e w3 (⟨rfl, hok⟩ | hbad)
          · have HOK := Lib.hid hok
            clear hok
            go_wp2_with fail
            go_meet
            case rel =>
              rw [HE'.out]
              refine ⟨⟨HOK.out.1, HOK.out.2.1, HO.out.trans HOK.out.2.2⟩, ?_⟩
              exact HAW.out w3 (HO2.out.trans HOK.out.2.2)
          · have hb2 : SBad Γ w (evE ρ (.mk 10 n kids p)) e w3 := by
              rw [evE, HE'.out]
              exact SBad.left (SBad.right (ev := ev) (m := m) (e1 := []) ⟨.inr rfl, HW2.out.nil, HO.out⟩ hbad) _
            obtain ⟨ch, rfl⟩ := hbad.pan
            exact ⟨rfl, .inr hb2⟩
        · have HE' : Hid (exprE ρ 10 n kids p = []) := HE.out
          go_wp2_with (first | (go_at_call 203; (with_reducible refine ct.mono ?_); rintro e w3 ⟨rfl, rfl⟩))
          go_meet
          case rel =>
            rw [HE'.out]
            exact ⟨⟨.inr rfl, HW2.out.nil, HO.out⟩, HB2.out⟩
      · have HE' : Hid (exprE ρ 10 n kids p = []) := HE.out
        go_wp2_with fail
        go_meet
        case rel =>
          rw [HE'.out]
          exact ⟨⟨.inr rfl, HW2.out.nil, HO.out⟩, HB2.out⟩
  case rest =>
    obtain ⟨hok, hbx⟩ := hcut
    obtain ⟨x0, x1, x2, x3, xf⟩ := hbx.facts
    have HOK := Lib.hid hok
    obtain ⟨len, hlen⟩ : ∃ len, kids.length = len := ⟨_, rfl⟩
    have HLN := Lib.hid hlen
    rw [hlen] at x2 hk
    clear hok hbx HB H0 hB13 hlen
    go_wp2_with fail
    go_loopg [87] len (fun g v wx => ∃ i : Nat, v = .int .i64 i ∧ i + g = len ∧ SOk Γ w m ev (exprE ρ k n kids p ++ evEs ρ (kids.take i)) wx)
    case atStart => exact ⟨0, rfl, by omega, by simpa [evEs] using HOK.out⟩
    case round =>
      clear HOK x0 x1 x2 x3 xf
      obtain ⟨i, rfl, hi, hok⟩ := hrel
      have HOK := Lib.hid hok
      clear hok
      by_cases hlt : i < len
      · obtain ⟨x, hx⟩ : ∃ x, kids[i]? = some x := ⟨kids[i]'(by have := HLN.out; omega), List.getElem?_eq_getElem _⟩
        have hmem := List.mem_of_getElem? hx
        obtain ⟨B, o, rfl, hat⟩ := (NdRow.mono (fun _ h _ => h) (fun b hb hl => HOK.out.2.2.block b hl hb) _ _ HROW.out : NdRow wr (fun b => ¬ MayT Γ b) kids y).at_ hx
        have hevs : evEs ρ (kids.take (i + 1)) = evEs ρ (kids.take i) ++ evE ρ x := by rw [List.take_add_one, hx]; exact evEs_snoc ρ _ x
        have hcat : exprE ρ k n kids p ++ evEs ρ kids = (exprE ρ k n kids p ++ evEs ρ (kids.take i)) ++ (evE ρ x ++ evEs ρ (kids.drop (i + 1))) := by
          have h1 : kids = kids.take (i + 1) ++ kids.drop (i + 1) := (List.take_append_drop _ _).symm
          have h2 : evEs ρ kids = evEs ρ (kids.take (i + 1)) ++ evEs ρ (kids.drop (i + 1)) := by
            conv => lhs; rw [h1]
            exact evEs_app ρ _ _
          rw [h2, hevs]
          simp only [List.append_assoc]
        obtain ⟨k1, n1, l1, p1⟩ := x
        obtain ⟨-, z0, z1, z3, y1, c1, z2, hk1⟩ := hat
        have HX := Lib.hid (HIH.out _ hmem)
        have HEV := Lib.hid hevs
        have HCAT := Lib.hid hcat
        have HK1 := Lib.hid hk1
        have hlt' : (i : Int) < (len : Int) := by omega
        have Qi1 : IntKind.i64.wrap ((i : Int) + 1) = (i : Int) + 1 := IntWalk.i64_in _ (by omega)
        clear hx hmem hevs hcat hk1
        go_upto_region 18 with (fail)
        have hal : Below wr.heap.size wr (wr.alloc (.cells #[.int .i64 k1, .string ⟨n1.toArray⟩, .slice y1 l1.length c1, .int .i64 p1] 53)) := (Below.refl _ _).alloc (Nat.le_refl _) _
        have HO1 : Hid (Owp (MayT Γ) w (wr.alloc (.cells #[.int .i64 k1, .string ⟨n1.toArray⟩, .slice y1 l1.length c1, .int .i64 p1] 53))) := Lib.hid (HOK.out.2.2.below hal)
        have HW1 := Lib.hid (HOK.out.2.1.below hal)
        have HK2 := Lib.hid (HK1.out.below hal)
        have HBX := Lib.hid (Box4.new wr (.int .i64 k1) (.string ⟨n1.toArray⟩) (.slice y1 l1.length c1) (.int .i64 p1))
        have HC1 := Lib.hid HOK.out.1
        clear z0 z1 z2 z3 HOK HK1 hal
        obtain ⟨bx, hbx⟩ : ∃ bx, wr.heap.size = bx := ⟨_, rfl⟩
        rw [hbx] at HBX ⊢
        clear hbx
        generalize World.alloc wr (.cells #[.int .i64 k1, .string ⟨n1.toArray⟩, .slice y1 l1.length c1, .int .i64 p1] 53) = w1 at HO1 HW1 HK2 HBX ⊢
        obtain ⟨x0, x1, x2, x3, xf⟩ := HBX.out.facts
        have hpre : SOk Γ w m ev (exprE ρ k n kids p ++ evEs ρ (kids.take i)) w1 := ⟨HC1.out, HW1.out, HO1.out⟩
        have HPRE := Lib.hid hpre
        have cx := HX.out w1 m _ ρ (.agg #[.int .i64 k1, .string ⟨n1.toArray⟩, .slice y1 l1.length c1, .int .i64 p1]) _ ⟨y1, c1, rfl, HK2.out⟩ (HENV.out.owp HO1.out) HW1.out (by
          have := HL.out
          rw [evE, HCAT.out] at this
          simp only [List.length_append] at this ⊢
          omega)
        clear hpre
        go_wp2_with fail
        refine cx.mono ?_
        clear cx x0 x1 x2 x3 xf
        rintro e w2 (⟨rfl, hok⟩ | hbad)
        · have HOK : Hid (SOk Γ w m ev (exprE ρ k n kids p ++ evEs ρ (kids.take (i + 1))) w2) := by
            show SOk _ _ _ _ _ _
            rw [HEV.out, ← List.append_assoc]
            exact HPRE.out.trans hok
          clear hok
          go_wp2_with fail
          go_roundg (gk - 1)
          case measure => omega
          case rel => exact ⟨i + 1, rfl, by omega, HOK.out⟩
        · have hb2 : SBad Γ w (evE ρ (.mk k n kids p)) e w2 := by
            rw [evE, HCAT.out]
            exact SBad.right HPRE.out (SBad.left hbad _)
          obtain ⟨ch, rfl⟩ := hbad.pan
          exact ⟨rfl, .inr hb2⟩
      · have hlt' : ¬ (i : Int) < (len : Int) := by omega
        have HE : Hid (SOk Γ w m ev (evE ρ (.mk k n kids p)) wr) := by
          show SOk _ _ _ _ _ _
          have := HOK.out
          rw [List.take_of_length_le (by have := HLN.out; omega)] at this
          rw [evE]
          exact this
        clear HOK
        go_wp2_with fail
        go_end0
        exact .inl ⟨rfl, HE.out⟩
end Go.Proofs.YtpbkeamjdolpgaaGreatDoor
namespace Go.Proofs.YtpbkeamjdolpgaaGreatDoor
open Go.RowKit Go.Lib
open Go.Maps (Keyed)

theorem exsR_each : ∀ {l : List Nd}, exsR l = true → ∀ x ∈ l, exR x = true
  | y :: r, h, x, hx => by
    have h' : (exR y && exsR r) = true := h
    rw [Bool.and_eq_true] at h'
    rcases List.mem_cons.1 hx with rfl | hx
    · exact h'.1
    · exact exsR_each h'.2 x hx
theorem shR_nil_cons (z : Nd) (r : List Nd) : shR [] (z :: r) = false := by simp [shR]
/-- The walk of an expression, or of what holds arguments. -/
theorem sexpr_any (Γ : SCtx) (hw : WrongOk Γ) : ∀ (N : Nat) (x : Nd), wtN x < N → wtN x < 2 ^ 40 → (exR x = true ∨ partR x = true ∧ x.kind = 8) → ExprOk Γ x
  | N + 1, .mk k n kids p, hN, hs, hx => by
    rw [wtN_mk] at hN hs
    have hlen := len_wtL kids
    have hk : ∀ y ∈ kids, exR y = true ∨ partR y = true ∧ y.kind = 8 := by
      intro y hy
      rcases hx with hx | ⟨hx, h8⟩
      · have h0 : exR (.mk k n kids p) = (if k = 9 then numR n && kids.isEmpty
          else if k = 10 then plainR n && kids.isEmpty
          else if k = 11 then n.isEmpty && exsR kids
          else if k = 12 then (if kids.length = 1 then (decide (n = [45]) || decide (n = [33])) && exsR kids else decide (0 < levelS n) && decide (kids.length = 2) && exsR kids)
          else if k = 13 then plainR n && shR [8] kids
          else if k = 14 then n.isEmpty && decide (kids.length = 2) && exsR kids
          else if k = 15 then n.isEmpty && decide (kids.length = 3) && exsR kids
          else false) := by rw [exR]
        rw [h0] at hx
        have he : ∀ {b : Bool}, (b && kids.isEmpty) = true → False := fun h => by
          simp at h
          rw [h.2] at hy
          cases hy
        have hee : ∀ {b : Bool}, (b && exsR kids) = true → exR y = true ∨ partR y = true ∧ y.kind = 8 := fun h => by
          rw [Bool.and_eq_true] at h
          exact .inl (exsR_each h.2 y hy)
        by_cases k9 : k = 9
        · rw [if_pos k9] at hx; exact (he hx).elim
        rw [if_neg k9] at hx
        by_cases k10 : k = 10
        · rw [if_pos k10] at hx; exact (he hx).elim
        rw [if_neg k10] at hx
        by_cases k11 : k = 11
        · rw [if_pos k11] at hx; exact hee hx
        rw [if_neg k11] at hx
        by_cases k12 : k = 12
        · rw [if_pos k12] at hx
          split at hx
          · exact hee hx
          · exact hee hx
        rw [if_neg k12] at hx
        by_cases k13 : k = 13
        · rw [if_pos k13] at hx
          rw [Bool.and_eq_true] at hx
          have h2 := hx.2
          cases kids with
          | nil => cases hy
          | cons z r =>
            cases r with
            | nil =>
              have h3 : (decide (z.kind = 8) && partR z) = true := by
                rw [shR, shR] at h2
                simpa using h2
              rw [Bool.and_eq_true] at h3
              rw [List.mem_singleton] at hy
              subst hy
              exact .inr ⟨h3.2, by simpa using h3.1⟩
            | cons z2 r2 =>
              have h3 : shR [8] (z :: z2 :: r2) = ((if (8 : Int) < 0 then exR z else decide (z.kind = 8) && partR z) && shR [] (z2 :: r2)) := by rw [shR]
              rw [h3, shR_nil_cons, Bool.and_false] at h2
              cases h2
        rw [if_neg k13] at hx
        by_cases k14 : k = 14
        · rw [if_pos k14] at hx; exact hee hx
        rw [if_neg k14] at hx
        by_cases k15 : k = 15
        · rw [if_pos k15] at hx; exact hee hx
        rw [if_neg k15] at hx
        cases hx
      · have h8' : k = 8 := h8
        subst h8'
        have h2 : (n.isEmpty && exsR kids) = true := by
          rw [partR] at hx
          simpa using hx
        rw [Bool.and_eq_true] at h2
        exact .inl (exsR_each h2.2 y hy)
    refine sexpr_step Γ hw k n kids p (by omega) (by omega) ?_ fun y hy => ?_
    · rintro rfl rfl
      rcases hx with hx | ⟨-, h8⟩
      · rw [exR] at hx
        simp [shR] at hx
      · cases h8
    · have := wtL_mem hy
      exact sexpr_any Γ hw N y (by omega) (by omega) (hk y hy)
/-- What stands behind statements. -/
def envSs (ρ : Env) (l : List Nd) : Env := l.foldl envS ρ
theorem evSs_app : ∀ (a b : List Nd) (ρ : Env) (m : Nat), evSs (a ++ b) ρ m = evSs a ρ m ++ evSs b (envSs ρ a) m
  | [], _, _, _ => by simp [evSs, envSs]
  | x :: r, b, ρ, m => by
    rw [List.cons_append, evSs, evSs, evSs_app r b, List.append_assoc]
    rfl
/-- What the walk of a statement promises. -/
def StmtOk (Γ : SCtx) (x : Nd) : Prop := ∀ (w : World) (m : Nat) (ev : List Ev) (ρ : Env) (v u : Value), NdVal w (fun b => ¬ MayT Γ b) x v → EnvAt w (MayT Γ) ρ u → WSt Γ w m ev → m + wtN x < 2 ^ 40 → ev.length + (evS x ρ m).length < 2 ^ 40 →
  Calls Tryz.prog 176 #[.pointer (some ⟨Γ.wb, 0, none⟩), v, u] w (SEndE Γ w m ev (evS x ρ m) (envS ρ x))
/-- .. of a block. -/
def BlockOk (Γ : SCtx) (l : List Nd) : Prop := ∀ (w : World) (m : Nat) (ev : List Ev) (ρ : Env) (y : Option Addr) (c : Nat) (u : Value), NdRow w (fun b => ¬ MayT Γ b) l y → EnvAt w (MayT Γ) ρ u → WSt Γ w m ev → m + wtL l < 2 ^ 40 → ev.length + (evSs l (none :: ρ) m).length < 2 ^ 40 →
  Calls Tryz.prog 134 #[.pointer (some ⟨Γ.wb, 0, none⟩), .slice y l.length c, u] w (SEnd Γ w m ev (evSs l (none :: ρ) m))
set_option maxHeartbeats 4000000 in
set_option maxRecDepth 100000 in
theorem block_step (Γ : SCtx) (l : List Nd) (ih : ∀ x ∈ l, StmtOk Γ x) : BlockOk Γ l := by
  intro w m ev ρ y c u hrow hu h hwt hl
  have cw := within_any (MayT Γ) ρ u w hu h.may
  have HH := Lib.hid h
  have HROW := Lib.hid hrow
  have HIH := Lib.hid ih
  have HL := Lib.hid hl
  have HWT := Lib.hid hwt
  have hk : l.length < 2 ^ 40 := by
    have := len_wtL l
    omega
  obtain ⟨len, hlen⟩ : ∃ len, l.length = len := ⟨_, rfl⟩
  have HLN := Lib.hid hlen
  rw [hlen] at hk ⊢
  clear h hrow ih hl hu hwt hlen
  go_enter Tryz.func134, Tryz.ntmps134
  go_wp2_with fail
  refine cw.mono ?_
  clear cw
  rintro e w1 ⟨u1, rfl, he1, hb1⟩
  have HE1 := Lib.hid he1
  have HOK1 := Lib.hid (SOk.start HH.out hb1)
  clear he1 hb1
  go_wp2_with fail
  go_loopg [2, 12] len (fun g u v wx => ∃ i : Nat, v = .int .i64 i ∧ i + g = len ∧ EnvAt wx (MayT Γ) (envSs (none :: ρ) (l.take i)) u ∧ SOk Γ w m ev (evSs (l.take i) (none :: ρ) m) wx)
  case atStart => exact ⟨0, rfl, by omega, HE1.out, by simpa [evSs] using HOK1.out⟩
  case round =>
    clear HOK1 HE1
    obtain ⟨i, rfl, hi, hen, hok⟩ := hrel
    have HEN := Lib.hid hen
    have HOK := Lib.hid hok
    clear hok hen
    by_cases hlt : i < len
    · obtain ⟨x, hx⟩ : ∃ x, l[i]? = some x := ⟨l[i]'(by have := HLN.out; omega), List.getElem?_eq_getElem _⟩
      have hmem := List.mem_of_getElem? hx
      obtain ⟨B, o, rfl, hat⟩ := (NdRow.mono (fun _ h _ => h) (fun b hb hl => HOK.out.2.2.block b hl hb) _ _ HROW.out : NdRow wr (fun b => ¬ MayT Γ b) l y).at_ hx
      have htk : l.take (i + 1) = l.take i ++ [x] := by rw [List.take_add_one, hx]; rfl
      have hevs : evSs (l.take (i + 1)) (none :: ρ) m = evSs (l.take i) (none :: ρ) m ++ evS x (envSs (none :: ρ) (l.take i)) m := by
        rw [htk, evSs_app]
        show _ ++ (evS x _ m ++ []) = _
        rw [List.append_nil]
      have henv : envSs (none :: ρ) (l.take (i + 1)) = envS (envSs (none :: ρ) (l.take i)) x := by
        rw [htk]
        unfold envSs
        rw [List.foldl_append]
        rfl
      obtain ⟨E2, hcat⟩ : ∃ E2, evSs l (none :: ρ) m = evSs (l.take i) (none :: ρ) m ++ (evS x (envSs (none :: ρ) (l.take i)) m ++ E2) := by
        refine ⟨evSs (l.drop (i + 1)) (envSs (none :: ρ) (l.take (i + 1))) m, ?_⟩
        have h1 : l = l.take (i + 1) ++ l.drop (i + 1) := (List.take_append_drop _ _).symm
        conv => lhs; rw [h1]
        rw [evSs_app, hevs, List.append_assoc]
      have hwx := wtL_mem hmem
      obtain ⟨k1, n1, l1, p1⟩ := x
      obtain ⟨-, z0, z1, z3, y1, c1, z2, hk1⟩ := hat
      have HX := Lib.hid (HIH.out _ hmem)
      have HEV := Lib.hid hevs
      have HNV := Lib.hid henv
      have HCAT := Lib.hid hcat
      have HK1 := Lib.hid hk1
      have HWX := Lib.hid hwx
      have hlt' : (i : Int) < (len : Int) := by omega
      have Qi1 : IntKind.i64.wrap ((i : Int) + 1) = (i : Int) + 1 := IntWalk.i64_in _ (by omega)
      clear hx hmem hevs hcat hk1 henv htk hwx
      go_upto_region 4 with (fail)
      have hal : Below wr.heap.size wr (wr.alloc (.cells #[.int .i64 k1, .string ⟨n1.toArray⟩, .slice y1 l1.length c1, .int .i64 p1] 53)) := (Below.refl _ _).alloc (Nat.le_refl _) _
      have HO1 : Hid (Owp (MayT Γ) w (wr.alloc (.cells #[.int .i64 k1, .string ⟨n1.toArray⟩, .slice y1 l1.length c1, .int .i64 p1] 53))) := Lib.hid (HOK.out.2.2.below hal)
      have HW1 := Lib.hid (HOK.out.2.1.below hal)
      have HK2 := Lib.hid (HK1.out.below hal)
      have HEN1 := Lib.hid (HEN.out.below hal)
      have HBX := Lib.hid (Box4.new wr (.int .i64 k1) (.string ⟨n1.toArray⟩) (.slice y1 l1.length c1) (.int .i64 p1))
      have HC1 := Lib.hid HOK.out.1
      clear z0 z1 z2 z3 HOK HK1 hal HEN
      obtain ⟨bx, hbx⟩ : ∃ bx, wr.heap.size = bx := ⟨_, rfl⟩
      rw [hbx] at HBX ⊢
      clear hbx
      generalize World.alloc wr (.cells #[.int .i64 k1, .string ⟨n1.toArray⟩, .slice y1 l1.length c1, .int .i64 p1] 53) = w2 at HO1 HW1 HK2 HBX HEN1 ⊢
      obtain ⟨x0, x1, x2, x3, xf⟩ := HBX.out.facts
      have hpre : SOk Γ w m ev (evSs (l.take i) (none :: ρ) m) w2 := ⟨HC1.out, HW1.out, HO1.out⟩
      have HPRE := Lib.hid hpre
      have cx := HX.out w2 m _ (envSs (none :: ρ) (l.take i)) (.agg #[.int .i64 k1, .string ⟨n1.toArray⟩, .slice y1 l1.length c1, .int .i64 p1]) _ ⟨y1, c1, rfl, HK2.out⟩ HEN1.out HW1.out (by
        have := HWT.out
        have := HWX.out
        omega) (by
        have := HL.out
        rw [HCAT.out] at this
        simp only [List.length_append] at this ⊢
        omega)
      clear hpre
      go_wp2_with fail
      refine cx.mono ?_
      clear cx x0 x1 x2 x3 xf
      rintro e w3 (⟨u3, rfl, he3, hok⟩ | hbad)
      · have HOK : Hid (SOk Γ w m ev (evSs (l.take (i + 1)) (none :: ρ) m) w3) := by
          show SOk _ _ _ _ _ _
          rw [HEV.out]
          exact HPRE.out.trans hok
        have HEN3 : Hid (EnvAt w3 (MayT Γ) (envSs (none :: ρ) (l.take (i + 1))) u3) := by
          show EnvAt _ _ _ _
          rw [HNV.out]
          exact he3
        clear hok he3
        go_wp2_with fail
        go_roundg (gk - 1)
        case measure => omega
        case rel => exact ⟨i + 1, rfl, by omega, HEN3.out, HOK.out⟩
      · have hb2 : SBad Γ w (evSs l (none :: ρ) m) e w3 := by
          rw [HCAT.out]
          exact SBad.right HPRE.out (SBad.left hbad _)
        obtain ⟨ch, rfl⟩ := hbad.pan
        exact ⟨rfl, .inr hb2⟩
    · have hlt' : ¬ (i : Int) < (len : Int) := by omega
      have HE : Hid (SOk Γ w m ev (evSs l (none :: ρ) m) wr) := by
        show SOk _ _ _ _ _ _
        have := HOK.out
        rw [List.take_of_length_le (by have := HLN.out; omega)] at this
        exact this
      clear HOK HEN
      go_wp2_with fail
      go_end0
      exact .inl ⟨rfl, HE.out⟩
end Go.Proofs.YtpbkeamjdolpgaaGreatDoor
namespace Go.Proofs.YtpbkeamjdolpgaaGreatDoor
open Go.RowKit Go.Lib
open Go.Maps (Keyed)

/-- What is told of a module's call. -/
def cntE (R : Option (Nat × Bool)) (n : List UInt8) (c len : Nat) (p : Int) : List Ev := match R with
  | none => [.miss n p]
  | some (a, bl) => if c ≠ a ∨ (1 < len ∧ bl = false) then [.bad 281 n p] else []
/-- What a module takes. -/
def mdlE (ρ : Env) (m : Nat) (n : List UInt8) : Option (Nat × Bool) := ((findE ρ 2 n false).map fun a => (a, true)).or (if n = wChildren ∧ m = 0 then none else mdB n)
theorem callE_eq (ρ : Env) (m : Nat) (n : List UInt8) (kids : List Nd) (p : Int) : callE ρ m n kids p = [.call n] ++ cntE (mdlE ρ m n) n (argc kids) kids.length p := rfl
/-- What the walk of a module's call promises. -/
def CallOk (Γ : SCtx) (k : Int) (n : List UInt8) (kids : List Nd) (p : Int) : Prop := ∀ (w : World) (m : Nat) (ev : List Ev) (ρ : Env) (v u : Value), NdVal w (fun b => ¬ MayT Γ b) (.mk k n kids p) v → EnvAt w (MayT Γ) ρ u → WSt Γ w m ev → m + wtL kids < 2 ^ 40 →
  ev.length + (callE ρ m n kids p ++ (evEs ρ (bodyOf kids) ++ evT kids ρ m)).length < 2 ^ 40 →
  Calls Tryz.prog 207 #[.pointer (some ⟨Γ.wb, 0, none⟩), v, u] w (SEnd Γ w m ev (callE ρ m n kids p ++ (evEs ρ (bodyOf kids) ++ evT kids ρ m)))
set_option maxHeartbeats 4000000 in
set_option maxRecDepth 100000 in
theorem call_step (Γ : SCtx) (hw : WrongOk Γ) (k : Int) (n : List UInt8) (k0 : Int) (n0 : List UInt8) (l0 : List Nd) (p0 : Int) (r : List Nd) (p : Int) (hr : r.length ≤ 1) (hn : n.length < 2 ^ 40) (ihE : ∀ x ∈ l0, ExprOk Γ x) (ihB : ∀ x ∈ r, BlockOk Γ x.kids) :
    CallOk Γ k n (.mk k0 n0 l0 p0 :: r) p := by
  intro w m ev ρ v u hv hu h hwt hl
  obtain ⟨y, cv, rfl, hrow⟩ := hv
  generalize cv.val = c
  clear cv
  obtain ⟨B, o, rfl, hat, hrow1⟩ := hrow
  obtain ⟨hokb, -, -, -, y0, cv0, hy2, hk0⟩ := hat
  generalize cv0.val = c0' at hy2
  clear cv0
  have hA : Below w.heap.size w (w.alloc (.cells #[.int .i64 k, .string ⟨n.toArray⟩, .slice (some ⟨B, o, none⟩) (Nd.mk k0 n0 l0 p0 :: r).length c, .int .i64 p] 53)) := (Below.refl _ _).alloc (Nat.le_refl _) _
  obtain ⟨F, cap, rfl, eg, -⟩ := env_any _ ρ u w hu
  obtain ⟨K, hK⟩ : ∃ K, (Nd.mk k0 n0 l0 p0 :: r).length = K := ⟨_, rfl⟩
  obtain ⟨L, hL⟩ : ∃ L, l0.length = L := ⟨_, rfl⟩
  have hK1 : K = r.length + 1 := by rw [← hK]; rfl
  have HKW : Hid (∀ w1, Owp (MayT Γ) w w1 → w1.cell? ⟨B, o + 2, none⟩ = some (.slice y0 L c0')) := Lib.hid fun w1 ho => by rw [← hL]; exact ho.cell (p := ⟨B, o + 2, none⟩) hokb.ok hy2
  have H0 := Lib.hid (SOk.start h hA)
  rw [hK] at H0 hA ⊢
  have HB := Lib.hid (Box4.new w (.int .i64 k) (.string ⟨n.toArray⟩) (.slice (some ⟨B, o, none⟩) K c) (.int .i64 p))
  have HROW := Lib.hid hk0
  have HROW1 := Lib.hid hrow1
  have HENV := Lib.hid hu
  have HW := Lib.hid hw
  have HIE := Lib.hid ihE
  have HIB := Lib.hid ihB
  have HL := Lib.hid hl
  have HN := Lib.hid hn
  have HA := Lib.hid hA
  have HMAY := Lib.hid h.may
  have HWT := Lib.hid hwt
  have HLL := Lib.hid hL
  have HKK := Lib.hid hK
  have HKR := Lib.hid (And.intro hK1 hr)
  have hLs : L < 2 ^ 40 := by
    have h1 := len_wtL l0
    have h2 : wtL (Nd.mk k0 n0 l0 p0 :: r) = wtN (Nd.mk k0 n0 l0 p0) + wtL r := rfl
    rw [wtN_mk] at h2
    omega
  have hkl : 0 < K := by omega
  clear hA hrow1 hu hw ihE ihB hl hn h hwt hL hK hk0 hK1 hr hokb hy2
  go_enter Tryz.func207, Tryz.ntmps207
  go_upto_region 1 with (fail)
  obtain ⟨a, ha⟩ : ∃ a, w.heap.size = a := ⟨_, rfl⟩
  rw [ha] at HB ⊢
  have HAA := Lib.hid ha
  clear ha
  generalize World.alloc w (.cells #[.int .i64 k, .string ⟨n.toArray⟩, .slice (some ⟨B, o, none⟩) K c, .int .i64 p] 53) = W at HA H0 HB ⊢
  have haw : ∀ w1, Owp (MayT Γ) W w1 → Box4 w1 a (.int .i64 k) (.string ⟨n.toArray⟩) (.slice (some ⟨B, o, none⟩) K c) (.int .i64 p) := fun w1 ho => (ho.block a HB.out.lt (fun hm => by have := HMAY.out a hm; have := HAA.out; omega)).trans HB.out
  have HAW := Lib.hid haw
  have HEX : Hid (callE ρ m n (Nd.mk k0 n0 l0 p0 :: r) p = [.call n] ++ cntE (mdlE ρ m n) n L K p) := Lib.hid (by
    rw [callE_eq, HKK.out, ← HLL.out]
    rfl)
  clear haw
  have hW0 : WSt Γ W m ev := by
    have := H0.out.2.1
    rwa [List.append_nil] at this
  have HW0 := Lib.hid hW0
  obtain ⟨-, -, -, -, -, -, c6, -⟩ := hW0.cells
  obtain ⟨cv, w2, hlook, hupd, hgrow, hcnt⟩ := CntMap.inc (w := W.drew) (b := Γ.cb) (l := calledE ev) (hW0.cal.keep rfl) (Nat.lt_of_le_of_lt (calledE_len ev) (by have := HL.out; omega)) n (by have := HN.out; unfold maxLen; omega)
  obtain ⟨x0, x1, x2, x3, xf⟩ := HB.out.facts
  have H2 : Hid (WSt Γ w2 m (ev ++ [.call n])) := Lib.hid (WSt.called (w := W.drew) (hW0.same fun _ _ => rfl) hgrow hcnt)
  have HO2 : Hid (Owp (MayT Γ) W w2) := by
    have h1 : Owp (MayT Γ) W W.drew := Owp.of_below (Below.refl _ _).drew
    exact h1.trans ⟨hgrow.os, hgrow.tape, hgrow.output, hgrow.size, fun j hj hn => hgrow.block j hj (fun e => by cases e; exact hn (.inr (.inr rfl)))⟩
  have HB2 := Lib.hid (HAW.out w2 HO2.out)
  clear hcnt hW0
  go_still_tail 8, (by kernel_rfl)
  change wpList _ _ _ _ _ (World.drew W)
  go_upto_region 2 with (fail)
  clear hlook hupd hgrow c6 x0 x1 x2 x3 xf
  obtain ⟨x0, x1, x2, x3, xf⟩ := HB2.out.facts
  obtain ⟨F', cap', hf, -, hc⟩ := env_any _ ρ _ w2 ((HENV.out.below HA.out).owp HO2.out)
  cases hf
  have c0 := hc 2 n false
  unfold TkEnd at c0
  obtain ⟨tx, htx⟩ : ∃ x, tkA ρ 2 n false = x := ⟨_, rfl⟩
  obtain ⟨ty, hty⟩ : ∃ x, tkB ρ 2 n false = x := ⟨_, rfl⟩
  obtain ⟨tz, htz⟩ : ∃ x, (findE ρ 2 n false).isSome = x := ⟨_, rfl⟩
  rw [htx, hty, htz] at c0
  have HTX := Lib.hid htx
  have HTY := Lib.hid hty
  have HTZ := Lib.hid htz
  clear hc htx hty htz
  go_wp2_with fail
  go_at_fn F
  refine c0.mono ?_
  clear c0 x0 x1 x2 x3 xf
  rintro e w3 ⟨rfl, hb3⟩
  have HW3 := Lib.hid (H2.out.below hb3)
  have HO3 := Lib.hid (HO2.out.below hb3)
  clear hb3 H2 HO2 HB2
  go_upto_if 26 with (fail)
  have hal : Below w3.heap.size w3 (w3.alloc (.cells #[.int .i64 tx, .bool ty] 171)) := (Below.refl _ _).alloc (Nat.le_refl _) _
  have HW4 := Lib.hid (HW3.out.below hal)
  have HO4 := Lib.hid (HO3.out.below hal)
  have HT4 := Lib.hid (Box2.new w3 (.int .i64 tx) (.bool ty))
  have hb8a : w.heap.size ≤ w3.heap.size ∧ W.heap.size ≤ w3.heap.size := ⟨Nat.le_trans HA.out.size HO3.out.size, HO3.out.size⟩
  obtain ⟨b8, hb8⟩ : ∃ b8, w3.heap.size = b8 := ⟨_, rfl⟩
  rw [hb8] at HT4 hb8a ⊢
  have HB8 := Lib.hid hb8a
  clear hal HW3 HO3 hb8 hb8a
  generalize World.alloc w3 (.cells #[.int .i64 tx, .bool ty] 171) = w4 at HW4 HO4 HT4 ⊢
  have HB4 := Lib.hid (HAW.out w4 HO4.out)
  go_cut [7] from 27 to 50 (fun v wx => v = .bool (mdlE ρ m n).isSome ∧ WSt Γ wx m (ev ++ [.call n]) ∧ Owp (MayT Γ) W wx ∧ ∀ a bl, mdlE ρ m n = some (a, bl) → wx.heap[b8]? = some (.cells #[.int .i64 (a : Nat), .bool bl] 171 (0, 0)))
  case first =>
    cases tz
    · have hfn : findE ρ 2 n false = none := by
        have := HTZ.out
        cases h : findE ρ 2 n false with
        | none => rfl
        | some a => rw [h] at this; cases this
      have HMD : Hid (mdlE ρ m n = if n = wChildren ∧ m = 0 then none else mdB n) := by
        show _ = _
        unfold mdlE
        rw [hfn]
        rfl
      clear hfn
      obtain ⟨-, -, c2, c3, -, -, -, -⟩ := HW4.out.cells
      obtain ⟨lx, lz, hlook, hlk⟩ := TkMap.look (w := w4.drew) (HW4.out.mds.keep rfl) n (by have := HN.out; unfold maxLen; omega)
      have HLK := Lib.hid hlk
      obtain ⟨x0, x1, x2, x3, xf⟩ := HB4.out.facts
      have t0 : w4.cell? ⟨b8, 0, none⟩ = some (.int .i64 tx) := by simp [World.cell?, HT4.out]
      have t1 : w4.cell? ⟨b8, 1, none⟩ = some (.bool ty) := by simp [World.cell?, HT4.out]
      have tf : ∀ o, w4.frozen? ⟨b8, o, none⟩ = false := fun o => by simp only [World.frozen?, HT4.out]; simp
      obtain ⟨fz, hfz⟩ : ∃ x, (mdB n).isSome = x := ⟨_, rfl⟩
      rw [hfz] at hlook
      have HFZ := Lib.hid hfz
      clear hlk hfz
      go_upto_region 4 with (fail)
      go_region
      go_upto_region 5 with (fail)
      clear hlook c2 c3 x0 x1 x2 x3 xf t0 t1 tf
      have hst : Ow b8 w4 (((World.setCell w4 ⟨b8, 0, none⟩ (.int .i64 lx)).setCell ⟨b8, 1, none⟩ (.bool lz)).drew) := ((((Ow.refl b8 w4).setCell (a := ⟨b8, 0, none⟩) (.inl rfl) _).setCell (a := ⟨b8, 1, none⟩) (.inl rfl) _)).drew
      have hkk : ∀ k, k ≠ b8 → (((World.setCell w4 ⟨b8, 0, none⟩ (.int .i64 lx)).setCell ⟨b8, 1, none⟩ (.bool lz)).drew).heap[k]? = w4.heap[k]? := fun k hk => (Below.heap_setCell _ _ _ _ hk).trans (Below.heap_setCell _ _ _ _ hk)
      have HW5 := Lib.hid (HW0.out.local HW4.out HB8.out.2 hkk)
      have HO5 := Lib.hid (HO4.out.fresh HB8.out.2 hst)
      have HT5 : Hid ((((World.setCell w4 ⟨b8, 0, none⟩ (.int .i64 lx)).setCell ⟨b8, 1, none⟩ (.bool lz)).drew).heap[b8]? = some (.cells #[.int .i64 lx, .bool lz] 171 (0, 0))) := by
        show ((World.setCell w4 ⟨b8, 0, none⟩ (.int .i64 lx)).setCell ⟨b8, 1, none⟩ (.bool lz)).heap[b8]? = _
        simp [World.setCell, Array.getElem?_modify, HT4.out]
      clear hst hkk HW4 HO4 HT4 HB4
      generalize World.drew ((World.setCell w4 ⟨b8, 0, none⟩ (.int .i64 lx)).setCell ⟨b8, 1, none⟩ (.bool lz)) = w5 at HW5 HO5 HT5 ⊢
      have HB5 := Lib.hid (HAW.out w5 HO5.out)
      have HREL : Hid (∀ b, b = (mdlE ρ m n).isSome → Value.bool b = .bool (mdlE ρ m n).isSome ∧ WSt Γ w5 m (ev ++ [.call n]) ∧ Owp (MayT Γ) W w5 ∧ ∀ a bl, mdlE ρ m n = some (a, bl) → w5.heap[b8]? = some (.cells #[.int .i64 (a : Nat), .bool bl] 171 (0, 0))) := by
        rintro b rfl
        refine ⟨rfl, HW5.out, HO5.out, fun a bl hab => ?_⟩
        rw [HMD.out] at hab
        split at hab
        · cases hab
        · obtain ⟨rfl, rfl⟩ := HLK.out a bl hab
          exact HT5.out
      have HCS : Hid (∀ b, ((n = wChildren ∧ m = 0) → b = false) → (¬ (n = wChildren ∧ m = 0) → b = fz) → b = (mdlE ρ m n).isSome) := by
        intro b h1 h2
        rw [HMD.out]
        split
        · exact h1 ‹_›
        · exact (h2 ‹_›).trans HFZ.out.symm
      obtain ⟨x0, x1, x2, x3, xf⟩ := HB5.out.facts
      obtain ⟨-, -, -, c3, -, -, -, -⟩ := HW5.out.cells
      cases fz
      · have HV := HCS.out false (fun _ => rfl) (fun _ => rfl)
        have HVV := Lib.hid HV
        clear HV
        go_wp2_with fail
        go_meet
        case rel => exact HREL.out _ HVV.out
      · by_cases hch : n = wChildren
        · by_cases hm : m = 0
          · have HVV := Lib.hid (HCS.out false (fun _ => rfl) (fun h => absurd ⟨hch, hm⟩ h))
            subst hm
            rw [hch] at x1
            unfold wChildren at x1
            clear hch
            go_wp2_with fail
            go_meet
            case rel => exact HREL.out _ HVV.out
          · have HVV := Lib.hid (HCS.out true (fun h => absurd h.2 hm) (fun _ => rfl))
            have hm1 : 0 < m := by omega
            have hm2 : (0 : Int) < (m : Int) := by omega
            rw [hch] at x1
            unfold wChildren at x1
            clear hch hm
            go_wp2_with fail
            go_meet
            case rel => exact HREL.out _ HVV.out
        · have HVV := Lib.hid (HCS.out true (fun h => absurd h.1 hch) (fun _ => rfl))
          have Q1 := str_ne hch
          unfold wChildren at Q1
          clear hch
          go_wp2_with fail
          go_meet
          case rel => exact HREL.out _ HVV.out
    · obtain ⟨tw, htw⟩ : ∃ t, findE ρ 2 n false = some t := by
        have := HTZ.out
        cases h : findE ρ 2 n false with
        | none => rw [h] at this; cases this
        | some a => exact ⟨a, rfl⟩
      have hmd : mdlE ρ m n = some (tw, true) := by
        unfold mdlE
        rw [htw]
        rfl
      have hta : tx = tw := by rw [← HTX.out, tkA, htw]; rfl
      have htb : ty = true := by rw [← HTY.out, tkB, htw]; rfl
      subst hta htb
      have HMD := Lib.hid hmd
      clear hmd htw
      go_wp2_with fail
      go_meet
      case rel =>
        rw [HMD.out]
        refine ⟨rfl, HW4.out, HO4.out, fun a bl hab => ?_⟩
        cases hab
        exact HT4.out
  case rest =>
    obtain ⟨rfl, hw5, ho5, ht5⟩ := hcut
    clear HW4 HO4 HT4 HB4 HTX HTY HTZ
    generalize mdlE ρ m n = RR at *
    have HW5 := Lib.hid hw5
    have HO5 := Lib.hid ho5
    have HT5 := Lib.hid ht5
    clear hw5 ho5 ht5
    generalize hRS : RR.isSome = RS at *
    have HRS := Lib.hid hRS
    clear hRS
    go_upto_if 52 with (fail)
    have HB5 := Lib.hid (HAW.out wc HO5.out)
    have hpre : SOk Γ w m ev [.call n] wc := ⟨.inr rfl, HW5.out, (Owp.of_below HA.out).trans HO5.out⟩
    have HPRE := Lib.hid hpre
    clear hpre
    go_cut [] from 53 to 81 (fun wx => SOk Γ w m ev ([.call n] ++ cntE RR n L K p) wx ∧ Box4 wx a (.int .i64 k) (.string ⟨n.toArray⟩) (.slice (some ⟨B, o, none⟩) K c) (.int .i64 p))
    case first =>
      clear HROW HROW1 HIE HIB HWT
      cases RR with
      | none =>
        obtain rfl : RS = false := HRS.out.symm
        have hlen : (ev ++ [Ev.call n]).length < 2 ^ 40 := by
          have := HL.out
          rw [HEX.out] at this
          simp [cntE] at this ⊢
          omega
        have cm := missing_any Γ HW.out m (ev ++ [.call n]) hlen k n HN.out (some ⟨B, o, none⟩) K c p wc HW5.out
        obtain ⟨x0, x1, x2, x3, xf⟩ := HB5.out.facts
        clear hlen
        go_wp2_with fail
        refine cm.mono ?_
        clear cm x0 x1 x2 x3 xf
        rintro e w6 (⟨rfl, hok⟩ | hbad)
        · have HOK := Lib.hid (HPRE.out.trans hok)
          have HO6 := Lib.hid (HO5.out.trans hok.2.2)
          clear hok
          go_wp2_with fail
          go_meet
          case rel => exact ⟨HOK.out, HAW.out w6 HO6.out⟩
        · have hb2 : SBad Γ w (callE ρ m n (Nd.mk k0 n0 l0 p0 :: r) p ++ (evEs ρ (bodyOf (Nd.mk k0 n0 l0 p0 :: r)) ++ evT (Nd.mk k0 n0 l0 p0 :: r) ρ m)) e w6 := by
            rw [HEX.out]
            exact SBad.left (SBad.right HPRE.out hbad) _
          obtain ⟨ch, rfl⟩ := hbad.pan
          exact ⟨rfl, .inr hb2⟩
      | some q =>
        obtain ⟨ta, tb⟩ := q
        obtain rfl : RS = true := HRS.out.symm
        obtain ⟨E, hE⟩ : ∃ E, ((L : Int) != (ta : Int)) = E := ⟨_, rfl⟩
        have HED : Hid (E = !decide (L = ta)) := Lib.hid (by
          rw [← hE]
          by_cases h : L = ta
          · subst h; simp
          · simp [h, bne]
            omega)
        go_upto_region 8 with (fail)
        obtain ⟨x0, x1, x2, x3, xf⟩ := HB5.out.facts
        have hT := HT5.out ta tb rfl
        have t0 : wc.cell? ⟨b8, 0, none⟩ = some (.int .i64 (ta : Nat)) := by simp [World.cell?, hT]
        have t1 : wc.cell? ⟨b8, 1, none⟩ = some (.bool tb) := by simp [World.cell?, hT]
        have y2 := HKW.out wc HPRE.out.2.2
        clear hT
        go_cut [75] from 56 to 75 (fun v wx => v = .bool (decide (L ≠ ta ∨ (1 < K ∧ tb = false))) ∧ ∃ nq, wx = wc.drewN nq)
        case first =>
          cases E
          · have hLa : L = ta := by have := HED.out; simpa using this
            have HLA := Lib.hid hLa
            clear hLa
            by_cases hK1 : 1 < K
            · have HK1 := Lib.hid hK1
              have d1 : decide ((1 : Int) < (K : Int)) = true := by simp; omega
              have d2 : (1 : Int) < (K : Int) := by omega
              cases tb
              · go_quiet (fail)
                go_wp2_with fail
                go_meet
                case rel =>
                  have h1 := HLA.out
                  have h2 := HK1.out
                  exact ⟨by simp [h1, h2], _, rfl⟩
              · go_quiet (fail)
                go_wp2_with fail
                go_meet
                case rel =>
                  have h1 := HLA.out
                  exact ⟨by simp [h1], _, rfl⟩
            · have HK1 := Lib.hid hK1
              have d1 : decide ((1 : Int) < (K : Int)) = false := by simp; omega
              have d2 : ¬ (1 : Int) < (K : Int) := by omega
              go_quiet (fail)
              go_wp2_with fail
              go_meet
              case rel =>
                have h1 := HLA.out
                have h2 := HK1.out
                exact ⟨by simp [h1, h2], _, rfl⟩
          · have hLa : ¬ L = ta := by have := HED.out; simpa using this
            have HLA := Lib.hid hLa
            clear hLa
            go_quiet (fail)
            go_wp2_with fail
            go_meet
            case rel =>
              have h1 := HLA.out
              exact ⟨by simp [h1], _, rfl⟩
        case rest =>
          obtain ⟨rfl, nq, rfl⟩ := hcut
          have HW7 : Hid (WSt Γ (wc.drewN nq) m (ev ++ [.call n])) := Lib.hid (HW5.out.same fun _ _ => rfl)
          have HO7 : Hid (Owp (MayT Γ) W (wc.drewN nq)) := Lib.hid (HO5.out.below (bdn (Below.refl _ _) _))
          have HB7 : Hid (Box4 (wc.drewN nq) a (.int .i64 k) (.string ⟨n.toArray⟩) (.slice (some ⟨B, o, none⟩) K c) (.int .i64 p)) := Lib.hid HB5.out
          clear x0 x1 x2 x3 xf t0 t1 y2 hE HW5 HO5 HB5 HT5 HPRE HED
          generalize World.drewN wc nq = w7 at HW7 HO7 HB7 ⊢
          obtain ⟨T, hT⟩ : ∃ T, decide (L ≠ ta ∨ (1 < K ∧ tb = false)) = T := ⟨_, rfl⟩
          rw [hT]
          have HXE : Hid (cntE (some (ta, tb)) n L K p = if T then [.bad 281 n p] else []) := Lib.hid (by
            show (if L ≠ ta ∨ (1 < K ∧ tb = false) then [Ev.bad 281 n p] else []) = _
            rw [← hT]
            by_cases h : L ≠ ta ∨ (1 < K ∧ tb = false)
            · rw [if_pos h, if_pos (decide_eq_true h)]
            · rw [if_neg h, if_neg (by rw [decide_eq_false h]; exact Bool.false_ne_true)])
          clear hT
          obtain ⟨x0, x1, x2, x3, xf⟩ := HB7.out.facts
          cases T
          · have HXF : Hid (cntE (some (ta, tb)) n L K p = []) := HXE.out
            go_wp2_with fail
            go_meet
            case rel =>
              rw [HXF.out]
              exact ⟨⟨.inr rfl, HW7.out, (Owp.of_below HA.out).trans HO7.out⟩, HB7.out⟩
          · have HXF : Hid (cntE (some (ta, tb)) n L K p = [.bad 281 n p]) := HXE.out
            obtain ⟨-, -, -, -, c4, -, -, -⟩ := HW7.out.cells
            have hw2 := HW.out.2 k n (some ⟨B, o, none⟩) K c p 281 w7.drew
            have egw := HW.out.1
            go_upto_region 9 with (fail)
            go_still_tail 5, (by kernel_rfl)
            change wpList _ _ _ _ _ (World.drew w7)
            have HW8 : Hid (WSt Γ w7.drew m (ev ++ [.call n])) := Lib.hid (HW7.out.same fun _ _ => rfl)
            have HO8 : Hid (Owp (MayT Γ) W w7.drew) := Lib.hid (HO7.out.below (Below.refl _ _).drew)
            clear HW7 HO7 HB7
            generalize World.drew w7 = w8 at *
            go_wp2_with fail
            go_at_fn Γ.wf
            refine hw2.mono ?_
            clear hw2 x0 x1 x2 x3 xf c4
            rintro e w9 (⟨ha, rfl, hb⟩ | ⟨ha, hb, b, hbl, rfl, hf⟩)
            · have HO9 := Lib.hid (HO8.out.below hb)
              have HOK : Hid (SOk Γ w m ev ([.call n] ++ cntE (some (ta, tb)) n L K p) w9) := by
                show SOk _ _ _ _ _ _
                rw [HXF.out]
                refine ⟨.inl ha, ?_, (Owp.of_below HA.out).trans HO9.out⟩
                rw [← List.append_assoc]
                exact (HW8.out.below hb).badly _ _ _
              clear ha hb
              go_wp2_with fail
              go_meet
              case rel => exact ⟨HOK.out, HAW.out w9 HO9.out⟩
            · have HO9 := Lib.hid (HO8.out.below hb)
              refine ⟨rfl, .inr ?_⟩
              rw [HEX.out, HXF.out]
              refine SBad.left ⟨ha, 281, n, p, b, rfl, ?_, rfl, hf, (Owp.of_below HA.out).trans HO9.out⟩ _
              have := (Owp.of_below (P := MayT Γ) HA.out).trans HO8.out
              have := this.size
              omega
    case rest =>
      obtain ⟨hok, hbx⟩ := hcut
      obtain ⟨x0, x1, x2, x3, xf⟩ := hbx.facts
      rw [← HEX.out] at hok
      have HOK := Lib.hid hok
      have HOK0 := HOK
      have HBX := Lib.hid hbx
      have y2 := HKW.out _ hok.2.2
      clear hok hbx HB H0 HW5 HO5 HT5 HB5 HPRE HRS
      go_wp2_with fail
      go_loopg [88] L (fun g v wx => ∃ i : Nat, v = .int .i64 i ∧ i + g = L ∧ SOk Γ w m ev (callE ρ m n (Nd.mk k0 n0 l0 p0 :: r) p ++ evEs ρ (l0.take i)) wx ∧ Box4 wx a (.int .i64 k) (.string ⟨n.toArray⟩) (.slice (some ⟨B, o, none⟩) K c) (.int .i64 p))
      case atStart => exact ⟨0, rfl, by omega, by simpa [evEs] using HOK.out, HBX.out⟩
      case round =>
        clear HOK x0 x1 x2 x3 xf y2
        obtain ⟨i, rfl, hi, hok, hbb⟩ := hrel
        have HOK := Lib.hid hok
        have HB9 := Lib.hid hbb
        clear hok hbb HBX
        by_cases hlt : i < L
        · obtain ⟨x, hx⟩ : ∃ x, l0[i]? = some x := ⟨l0[i]'(by have := HLL.out; omega), List.getElem?_eq_getElem _⟩
          have hmem := List.mem_of_getElem? hx
          obtain ⟨B1, o1, rfl, hat⟩ := (NdRow.mono (fun _ h _ => h) (fun b hb hl => HOK.out.2.2.block b hl hb) _ _ HROW.out : NdRow wr (fun b => ¬ MayT Γ b) l0 y0).at_ hx
          have hevs : evEs ρ (l0.take (i + 1)) = evEs ρ (l0.take i) ++ evE ρ x := by rw [List.take_add_one, hx]; exact evEs_snoc ρ _ x
          have hcat : callE ρ m n (Nd.mk k0 n0 l0 p0 :: r) p ++ (evEs ρ l0 ++ evT (Nd.mk k0 n0 l0 p0 :: r) ρ m) = (callE ρ m n (Nd.mk k0 n0 l0 p0 :: r) p ++ evEs ρ (l0.take i)) ++ (evE ρ x ++ (evEs ρ (l0.drop (i + 1)) ++ evT (Nd.mk k0 n0 l0 p0 :: r) ρ m)) := by
            have h1 : l0 = l0.take (i + 1) ++ l0.drop (i + 1) := (List.take_append_drop _ _).symm
            have h2 : evEs ρ l0 = evEs ρ (l0.take (i + 1)) ++ evEs ρ (l0.drop (i + 1)) := by
              conv => lhs; rw [h1]
              exact evEs_app ρ _ _
            rw [h2, hevs]
            simp only [List.append_assoc]
          obtain ⟨k1, n1, l1, p1⟩ := x
          obtain ⟨-, z0, z1, z3, y1, c1, z2, hk1⟩ := hat
          have HX := Lib.hid (HIE.out _ hmem)
          have HEV := Lib.hid hevs
          have HCAT := Lib.hid hcat
          have HK1 := Lib.hid hk1
          have hlt' : (i : Int) < (L : Int) := by omega
          have Qi1 : IntKind.i64.wrap ((i : Int) + 1) = (i : Int) + 1 := IntWalk.i64_in _ (by omega)
          clear hx hmem hevs hcat hk1
          go_upto_region 13 with (fail)
          have hal : Below wr.heap.size wr (wr.alloc (.cells #[.int .i64 k1, .string ⟨n1.toArray⟩, .slice y1 l1.length c1, .int .i64 p1] 53)) := (Below.refl _ _).alloc (Nat.le_refl _) _
          have HO1 : Hid (Owp (MayT Γ) w (wr.alloc (.cells #[.int .i64 k1, .string ⟨n1.toArray⟩, .slice y1 l1.length c1, .int .i64 p1] 53))) := Lib.hid (HOK.out.2.2.below hal)
          have HW1 := Lib.hid (HOK.out.2.1.below hal)
          have HK2 := Lib.hid (HK1.out.below hal)
          have HBY := Lib.hid (Box4.new wr (.int .i64 k1) (.string ⟨n1.toArray⟩) (.slice y1 l1.length c1) (.int .i64 p1))
          have HC1 := Lib.hid HOK.out.1
          have HBA := Lib.hid ((hal.block a HB9.out.lt).trans HB9.out)
          clear z0 z1 z2 z3 HOK HK1 hal HB9
          obtain ⟨bx, hbx⟩ : ∃ bx, wr.heap.size = bx := ⟨_, rfl⟩
          rw [hbx] at HBY ⊢
          clear hbx
          generalize World.alloc wr (.cells #[.int .i64 k1, .string ⟨n1.toArray⟩, .slice y1 l1.length c1, .int .i64 p1] 53) = w1 at HO1 HW1 HK2 HBY HBA ⊢
          obtain ⟨x0, x1, x2, x3, xf⟩ := HBY.out.facts
          have hpre : SOk Γ w m ev (callE ρ m n (Nd.mk k0 n0 l0 p0 :: r) p ++ evEs ρ (l0.take i)) w1 := ⟨HC1.out, HW1.out, HO1.out⟩
          have HPRE := Lib.hid hpre
          have cx := HX.out w1 m _ ρ (.agg #[.int .i64 k1, .string ⟨n1.toArray⟩, .slice y1 l1.length c1, .int .i64 p1]) _ ⟨y1, c1, rfl, HK2.out⟩ (HENV.out.owp HO1.out) HW1.out (by
            have := HL.out
            rw [show bodyOf (Nd.mk k0 n0 l0 p0 :: r) = l0 from rfl, HCAT.out] at this
            simp only [List.length_append] at this ⊢
            omega)
          clear hpre
          go_wp2_with fail
          refine cx.mono ?_
          clear cx x0 x1 x2 x3 xf
          rintro e w2 (⟨rfl, hok⟩ | hbad)
          · have HOK : Hid (SOk Γ w m ev (callE ρ m n (Nd.mk k0 n0 l0 p0 :: r) p ++ evEs ρ (l0.take (i + 1))) w2) := by
              show SOk _ _ _ _ _ _
              rw [HEV.out, ← List.append_assoc]
              exact HPRE.out.trans hok
            have HB3 : Hid (Box4 w2 a (.int .i64 k) (.string ⟨n.toArray⟩) (.slice (some ⟨B, o, none⟩) K c) (.int .i64 p)) := Lib.hid (hok.2.2.keep (fun hm => by have := HMAY.out a hm; have := HAA.out; omega) HBA.out)
            clear hok
            go_wp2_with fail
            go_roundg (gk - 1)
            case measure => omega
            case rel => exact ⟨i + 1, rfl, by omega, HOK.out, HB3.out⟩
          · have hb2 : SBad Γ w (callE ρ m n (Nd.mk k0 n0 l0 p0 :: r) p ++ (evEs ρ (bodyOf (Nd.mk k0 n0 l0 p0 :: r)) ++ evT (Nd.mk k0 n0 l0 p0 :: r) ρ m)) e w2 := by
              rw [show bodyOf (Nd.mk k0 n0 l0 p0 :: r) = l0 from rfl, HCAT.out]
              exact SBad.right HPRE.out (SBad.left hbad _)
            obtain ⟨ch, rfl⟩ := hbad.pan
            exact ⟨rfl, .inr hb2⟩
        · have hlt' : ¬ (i : Int) < (L : Int) := by omega
          have hfin : SOk Γ w m ev (callE ρ m n (Nd.mk k0 n0 l0 p0 :: r) p ++ evEs ρ l0) wr := by
            have := HOK.out
            rwa [List.take_of_length_le (by have := HLL.out; omega)] at this
          have HE := Lib.hid hfin
          obtain ⟨x0, x1, x2, x3, xf⟩ := HB9.out.facts
          clear HOK hfin
          cases r with
          | nil =>
            obtain rfl : K = 1 := HKR.out.1
            have HEE : Hid (SOk Γ w m ev (callE ρ m n [Nd.mk k0 n0 l0 p0] p ++ (evEs ρ (bodyOf [Nd.mk k0 n0 l0 p0]) ++ evT [Nd.mk k0 n0 l0 p0] ρ m)) wr) := by
              show SOk _ _ _ _ (_ ++ (evEs ρ l0 ++ [])) _
              rw [List.append_nil]
              exact HE.out
            go_wp2_with fail
            go_end0
            exact .inl ⟨rfl, HEE.out⟩
          | cons X1 r' =>
            obtain rfl : r' = [] := by
              have := HKR.out.2
              simp at this
              exact this
            obtain rfl : K = 2 := HKR.out.1
            obtain ⟨k2, n2, l2, p2⟩ := X1
            obtain ⟨B2, o2, hbo, hat2, -⟩ := HROW1.out
            cases hbo
            obtain ⟨hok2, -, -, -, y3, c3', hy3, hk3⟩ := hat2
            have hx2 := HE.out.2.2.cell (p := ⟨B, o + 4 + 2, none⟩) hok2.ok hy3
            have hk4 : NdRow wr (fun b => ¬ MayT Γ b) l2 y3 := NdRow.mono (fun _ h _ => h) (fun b hb hl => HE.out.2.2.block b hl hb) _ _ hk3
            have cb := HIB.out _ (List.mem_singleton_self _) wr m _ ρ y3 c3' _ hk4 (HENV.out.owp HE.out.2.2) HE.out.2.1 (by
              have h1 := HWT.out
              have h2 : wtL [Nd.mk k0 n0 l0 p0, Nd.mk k2 n2 l2 p2] = wtN (Nd.mk k0 n0 l0 p0) + (wtN (Nd.mk k2 n2 l2 p2) + 0) := rfl
              rw [wtN_mk k2] at h2
              show m + wtL l2 < _
              omega) (by
              have h1 := HL.out
              have h2 : evT [Nd.mk k0 n0 l0 p0, Nd.mk k2 n2 l2 p2] ρ m = evSs l2 (none :: ρ) m ++ [] := rfl
              rw [h2, show bodyOf [Nd.mk k0 n0 l0 p0, Nd.mk k2 n2 l2 p2] = l0 from rfl] at h1
              simp only [List.length_append, List.length_nil] at h1 ⊢
              show _ + (evSs l2 (none :: ρ) m).length < _
              omega)
            rw [show (Nd.mk k2 n2 l2 p2).kids = l2 from rfl] at cb
            clear hok2 hy3 hk3 hk4
            go_wp2_with fail
            refine cb.mono ?_
            clear cb
            have hev : callE ρ m n [Nd.mk k0 n0 l0 p0, Nd.mk k2 n2 l2 p2] p ++ (evEs ρ (bodyOf [Nd.mk k0 n0 l0 p0, Nd.mk k2 n2 l2 p2]) ++ evT [Nd.mk k0 n0 l0 p0, Nd.mk k2 n2 l2 p2] ρ m) = (callE ρ m n [Nd.mk k0 n0 l0 p0, Nd.mk k2 n2 l2 p2] p ++ evEs ρ l0) ++ evSs l2 (none :: ρ) m := by
              show _ ++ (evEs ρ l0 ++ (evSs l2 (none :: ρ) m ++ [])) = _
              rw [List.append_nil, List.append_assoc]
            have HEVV := Lib.hid hev
            clear hev
            rintro e w2 (⟨rfl, hok⟩ | hbad)
            · have HOK := Lib.hid (HE.out.trans hok)
              clear hok
              go_wp2_with fail
              go_end0
              refine .inl ⟨rfl, ?_⟩
              rw [HEVV.out]
              exact HOK.out
            · have hb2 : SBad Γ w (callE ρ m n [Nd.mk k0 n0 l0 p0, Nd.mk k2 n2 l2 p2] p ++ (evEs ρ (bodyOf [Nd.mk k0 n0 l0 p0, Nd.mk k2 n2 l2 p2]) ++ evT [Nd.mk k0 n0 l0 p0, Nd.mk k2 n2 l2 p2] ρ m)) e w2 := by
                rw [HEVV.out]
                exact SBad.right HE.out hbad
              obtain ⟨ch, rfl⟩ := hbad.pan
              exact ⟨rfl, .inr hb2⟩
end Go.Proofs.YtpbkeamjdolpgaaGreatDoor
