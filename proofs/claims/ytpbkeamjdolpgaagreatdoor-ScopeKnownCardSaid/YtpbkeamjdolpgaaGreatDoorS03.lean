/- The walks of scope's definitions: a function's, a module's. -/
import Derived.Test.YtpbkeamjdolpgaaGreatDoorS02
namespace Go.Proofs.YtpbkeamjdolpgaaGreatDoor
open Go.RowKit Go.Lib
open Go.Maps (Keyed)

/-- How many modules' blocks are about this place is turned. -/
theorem WSt.setIn {Γ : SCtx} {w : World} {m : Nat} {ev : List Ev} (h : WSt Γ w m ev) (m' : Nat) : WSt Γ (w.setCell ⟨Γ.wb, 3, none⟩ (.int .i64 m')) m' ev := by
  have g : ∀ k, k ≠ Γ.wb → (w.setCell ⟨Γ.wb, 3, none⟩ (.int .i64 m')).heap[k]? = w.heap[k]? := fun k hk => Below.heap_setCell _ _ _ _ hk
  refine ⟨?_, h.fns.keep (g _ fun e => h.n4 (.inl e)), h.mds.keep (g _ fun e => h.n5 (.inl e)), h.fre.keep (g _ (Ne.symm h.n1)), h.cal.keep (g _ (Ne.symm h.n2)), h.n1, h.n2, h.n3, h.n4, h.n5⟩
  simp [World.setCell, Array.getElem?_modify, h.blk]
theorem Owp.setIn {Γ : SCtx} (w : World) (v : Value) : Owp (MayT Γ) w (w.setCell ⟨Γ.wb, 3, none⟩ v) := by
  have h := (Ow.refl Γ.wb w).setCell (a := ⟨Γ.wb, 3, none⟩) (.inl rfl) v
  exact ⟨h.os, h.tape, h.output, h.size, fun k hk hn => h.block k hk (fun e => hn (.inl e))⟩
/-- What is built in by a name, in whatever world that has the map. -/
theorem TkMap.lookAll {w : World} {b : Nat} {f : List UInt8 → Option (Nat × Bool)} (h : TkMap w b f) (s : List UInt8) (hs : s.length ≤ maxLen) :
    ∃ (x : Int) (z : Bool), ∀ w' : World, w'.heap[b]? = w.heap[b]? → (Instr.lookup 117 (.map (some b)) (.string ⟨s.toArray⟩) true).run Tryz.prog w' = .ok (.tuple #[.agg #[.int .i64 x, .bool z], .bool (f s).isSome]) w' := by
  obtain ⟨n, D, hn, ho, hD⟩ := h
  obtain ⟨v, ps, h1, h2⟩ := ho.look_ok Tryz.kStr Tryz.underlying117 (Tryz.zeroTakes w) (tkElem_mk 0 false) (key_str s hs)
  obtain ⟨x, z, rfl, h3⟩ := tkElem_inv h2
  refine ⟨x, z, fun w' hw => ?_⟩
  have ho' : w'.ownsMap Tryz.prog 9 tkElem b n D := by
    obtain ⟨es, clock, hb, F, hs, hD⟩ := ho
    exact ⟨es, clock, hw.trans hb, F, hs, hD⟩
  obtain ⟨v', ps', h1', h2'⟩ := ho'.look_ok Tryz.kStr Tryz.underlying117 (Tryz.zeroTakes w') (tkElem_mk 0 false) (key_str s hs)
  obtain ⟨x', z', rfl, h3'⟩ := tkElem_inv h2'
  have e : (DataW.agg [.lit (.int .i64 x'), .lit (.bool z')] : DataW Unit) = .agg [.lit (.int .i64 x), .lit (.bool z)] := by
    have a1 := congrArg Prod.fst h3
    have a2 := congrArg Prod.fst h3'
    exact a2.symm.trans a1
  simp at e
  obtain ⟨rfl, rfl⟩ := e
  rw [h1', (hD.2 s).1]
theorem parE_app : ∀ (a b : List Nd) (ρ : Env), parE ρ (a ++ b) = parE ρ a ++ parE (parV ρ a) b
  | [], _, _ => rfl
  | .mk k n l p :: r, b, ρ => by
    rw [List.cons_append, parE, parE, parE_app r b, List.append_assoc]
    rfl
theorem parV_app : ∀ (a b : List Nd) (ρ : Env), parV ρ (a ++ b) = parV (parV ρ a) b
  | [], _, _ => rfl
  | .mk k n l p :: r, b, ρ => by
    rw [List.cons_append, parV, parV, parV_app r b]
/-- What the walk of a definition promises. -/
def BodyOk (Γ : SCtx) (K : Nat) (evs : Env → Nat → List Ev) (k : Int) (n : List UInt8) (kids : List Nd) (p : Int) : Prop := ∀ (w : World) (m : Nat) (ev : List Ev) (ρ : Env) (v u : Value), NdVal w (fun b => ¬ MayT Γ b) (.mk k n kids p) v → EnvAt w (MayT Γ) ρ u → WSt Γ w m ev → m + wtN (.mk k n kids p) < 2 ^ 40 →
  ev.length + (evs ρ m).length < 2 ^ 40 →
  Calls Tryz.prog 206 #[.pointer (some ⟨Γ.wb, 0, none⟩), v, .int .i64 K, u] w (SEndE Γ w m ev (evs ρ m) (some (K, n, argc kids) :: ρ))
set_option maxHeartbeats 4000000 in
set_option maxRecDepth 100000 in
theorem body1_step (Γ : SCtx) (hw : WrongOk Γ) (k : Int) (n : List UInt8) (k0 : Int) (n0 : List UInt8) (l0 : List Nd) (p0 : Int) (x1 : Nd) (p : Int) (hX : ExprOk Γ x1) :
    BodyOk Γ 1 (fun ρ _ => defE ρ 1 n p ++ (parE (none :: some (1, n, l0.length) :: ρ) l0 ++ evEs (parV (none :: some (1, n, l0.length) :: ρ) l0) [x1])) k n [.mk k0 n0 l0 p0, x1] p := by
  intro w m ev ρ v u hv hu h hwt hl
  dsimp only at hl ⊢
  obtain ⟨y, cv, rfl, hrow⟩ := hv
  generalize cv.val = c
  clear cv
  obtain ⟨B, o, rfl, hat, hrow1⟩ := hrow
  obtain ⟨hokb, -, -, -, y0, cv0, hy2, hk0⟩ := hat
  generalize cv0.val = c0' at hy2
  clear cv0
  obtain ⟨B', o', hBo, hat1, -⟩ := hrow1
  cases hBo
  have hA : Below w.heap.size w (w.alloc (.cells #[.int .i64 k, .string ⟨n.toArray⟩, .slice (some ⟨B, o, none⟩) 2 c, .int .i64 p] 53)) := (Below.refl _ _).alloc (Nat.le_refl _) _
  obtain ⟨F, cap, rfl, eg, -⟩ := env_any _ ρ u w hu
  obtain ⟨L, hL⟩ : ∃ L, l0.length = L := ⟨_, rfl⟩
  have HKW : Hid (∀ w1, Owp (MayT Γ) w w1 → w1.cell? ⟨B, o + 2, none⟩ = some (.slice y0 L c0')) := Lib.hid fun w1 ho => by rw [← hL]; exact ho.cell (p := ⟨B, o + 2, none⟩) hokb.ok hy2
  have H0 := Lib.hid (SOk.start h hA)
  have HB := Lib.hid (Box4.new w (.int .i64 k) (.string ⟨n.toArray⟩) (.slice (some ⟨B, o, none⟩) 2 c) (.int .i64 p))
  have HROW := Lib.hid hk0
  have HAT1 := Lib.hid hat1
  have HENV := Lib.hid hu
  have HW := Lib.hid hw
  have HX := Lib.hid hX
  have HL := Lib.hid hl
  have HA := Lib.hid hA
  have HMAY := Lib.hid h.may
  have HWT := Lib.hid hwt
  have HLL := Lib.hid hL
  have hwt2 : wtN (.mk k n [.mk k0 n0 l0 p0, x1] p) = (wtL l0 + n0.length + 1 + (wtN x1 + 0)) + n.length + 1 := by
    rw [wtN_mk]
    show (wtN (.mk k0 n0 l0 p0) + (wtN x1 + 0)) + _ + _ = _
    rw [wtN_mk]
  have HWT2 := Lib.hid hwt2
  have hLs : L < 2 ^ 40 := by
    have h1 := len_wtL l0
    omega
  have HN : Hid (n.length < 2 ^ 40) := Lib.hid (by omega)
  clear hA hu hw hX hl hwt hk0 hokb hy2 hwt2 hat1
  have hc := (env_any _ ρ _ _ (HENV.out.below HA.out))
  obtain ⟨F', cap', hf, -, hc⟩ := hc
  cases hf
  have c0 := hc 1 n true
  unfold TkEnd at c0
  obtain ⟨tx, htx⟩ : ∃ x, tkA ρ 1 n true = x := ⟨_, rfl⟩
  obtain ⟨ty, hty⟩ : ∃ x, tkB ρ 1 n true = x := ⟨_, rfl⟩
  obtain ⟨tz, htz⟩ : ∃ x, (findE ρ 1 n true).isSome = x := ⟨_, rfl⟩
  rw [htx, hty, htz] at c0
  have HTZ := Lib.hid htz
  clear hc htx hty htz h hL
  obtain ⟨fz, hfz⟩ : ∃ x, ((fnB n).map fun x => (x, false)).isSome = x := ⟨_, rfl⟩
  have HFZ := Lib.hid hfz
  obtain ⟨P0, hP0⟩ : ∃ P : List Ev, [] = P := ⟨_, rfl⟩
  obtain ⟨DE, hDE⟩ : ∃ D, defE ρ 1 n p = D := ⟨_, rfl⟩
  have HDE : Hid (DE = if fz || tz then [.bad 280 n p] else []) := Lib.hid (by
    rw [← hDE, ← HFZ.out, ← HTZ.out]
    unfold defE
    simp)
  rw [hDE] at HL ⊢
  obtain ⟨REST, hREST⟩ : ∃ D, parE (none :: some (1, n, l0.length) :: ρ) l0 ++ evEs (parV (none :: some (1, n, l0.length) :: ρ) l0) [x1] = D := ⟨_, rfl⟩
  have HREST := Lib.hid hREST
  rw [hREST] at HL ⊢
  have HTOT : Hid (DE ++ REST = (P0 ++ DE) ++ REST) := Lib.hid (by rw [← hP0]; rfl)
  have HP0 := Lib.hid hP0
  clear hP0 hDE hREST hfz
  go_enter Tryz.func206, Tryz.ntmps206
  go_upto_region 1 with (fail)
  obtain ⟨a, ha⟩ : ∃ a, w.heap.size = a := ⟨_, rfl⟩
  rw [ha] at HB ⊢
  have HAA := Lib.hid ha
  clear ha
  generalize World.alloc w (.cells #[.int .i64 k, .string ⟨n.toArray⟩, .slice (some ⟨B, o, none⟩) 2 c, .int .i64 p] 53) = W at HA H0 HB c0 ⊢
  have haw : ∀ w1, Owp (MayT Γ) W w1 → Box4 w1 a (.int .i64 k) (.string ⟨n.toArray⟩) (.slice (some ⟨B, o, none⟩) 2 c) (.int .i64 p) := fun w1 ho => (ho.block a HB.out.lt (fun hm => by have := HMAY.out a hm; have := HAA.out; omega)).trans HB.out
  have HAW := Lib.hid haw
  clear haw
  have hW0 : WSt Γ W m ev := by
    have := H0.out.2.1
    rwa [List.append_nil] at this
  have HW0 := Lib.hid hW0
  obtain ⟨x0, x1', x2, x3, xf⟩ := HB.out.facts
  clear hW0
  go_wp2_with fail
  go_at_fn F
  refine c0.mono ?_
  clear c0 x0 x1' x2 x3 xf
  rintro e w1 ⟨rfl, hb1⟩
  go_upto_region 2 with (fail)
  have hal : Below w1.heap.size w1 (w1.alloc (.cells #[.int .i64 tx, .bool ty] 171)) := (Below.refl _ _).alloc (Nat.le_refl _) _
  have HW2 := Lib.hid ((HW0.out.below hb1).below hal)
  have HO2 : Hid (Owp (MayT Γ) W _) := Lib.hid ((Owp.of_below hb1).below hal)
  clear hal hb1
  generalize World.alloc w1 (.cells #[.int .i64 tx, .bool ty] 171) = w2 at HW2 HO2 ⊢
  have HB2 := Lib.hid (HAW.out w2 HO2.out)
  obtain ⟨b9, hb9⟩ : ∃ b9, w2.heap.size = b9 := ⟨_, rfl⟩
  have hz : Below w2.heap.size w2 (w2.alloc (.cells #[.int .i64 0, .bool false] 171)) := (Below.refl _ _).alloc (Nat.le_refl _) _
  have HWZ := Lib.hid (HW2.out.below hz)
  have HOZ := Lib.hid (HO2.out.below hz)
  have HTZ2 := Lib.hid (Box2.new w2 (.int .i64 0) (.bool false))
  have hb9a : W.heap.size ≤ b9 := by
    have := HO2.out.size
    omega
  have HB9 := Lib.hid hb9a
  rw [hb9] at HTZ2
  have HB2Z := Lib.hid (HAW.out _ HOZ.out)
  obtain ⟨x0, x1', x2, x3, xf⟩ := HB2Z.out.facts
  obtain ⟨-, c1, c2, -, -, -, -, -⟩ := HWZ.out.cells
  obtain ⟨x0b, x1b, x2b, x3b, xfb⟩ := HB2.out.facts
  obtain ⟨-, c1b, c2b, -, -, -, -, -⟩ := HW2.out.cells
  have t0 : (w2.alloc (.cells #[.int .i64 0, .bool false] 171)).cell? ⟨b9, 0, none⟩ = some (.int .i64 0) := by simp [World.cell?, HTZ2.out]
  have t1 : (w2.alloc (.cells #[.int .i64 0, .bool false] 171)).cell? ⟨b9, 1, none⟩ = some (.bool false) := by simp [World.cell?, HTZ2.out]
  have tf : ∀ o, (w2.alloc (.cells #[.int .i64 0, .bool false] 171)).frozen? ⟨b9, o, none⟩ = false := fun o => by simp only [World.frozen?, HTZ2.out]; simp
  obtain ⟨lx, lz, hlooks⟩ := TkMap.lookAll (HW2.out.fns) n (by have := HN.out; unfold maxLen; omega)
  have hlook := hlooks w2.drew rfl
  have hlook2 := hlooks (w2.alloc (.cells #[.int .i64 0, .bool false] 171)).drew (hz.block _ HW2.out.fns.lt)
  rw [HFZ.out] at hlook hlook2
  clear hz hb9a hlooks
  go_cut [11, 12] from 26 to 37 (fun _ v wx => v = .bool fz ∧ Below w2.heap.size w2 wx)
  case first =>
    go_region
    all_goals go_wp2_with fail
    all_goals go_meet
    all_goals refine ⟨rfl, ?_⟩
    all_goals (first | exact ((Below.refl _ _).alloc (Nat.le_refl _) _).drew | exact ((Below.refl _ _).drew).alloc (Nat.le_refl _) _)
  case rest =>
  obtain ⟨rfl, hb3⟩ := hcut
  have HW3 := Lib.hid (HW2.out.below hb3)
  have HO3 := Lib.hid (HO2.out.below hb3)
  clear hlook hlook2 c1 c2 c1b c2b x0 x1' x2 x3 xf x0b x1b x2b x3b xfb t0 t1 tf hb3 HW2 HO2 HWZ HOZ HTZ2 HB2Z HB2
  obtain ⟨w3, hw3⟩ : ∃ w3, wc = w3 := ⟨_, rfl⟩
  rw [hw3] at HW3 HO3 ⊢
  clear hw3
  go_upto_region 3 with (fail)
  have HB3 := Lib.hid (HAW.out w3 HO3.out)
  have HS3 : Hid (SOk Γ w m ev P0 w3) := Lib.hid ⟨.inr (by rw [← HP0.out]; rfl), by rw [← HP0.out]; exact HW3.out.nil, (Owp.of_below HA.out).trans HO3.out⟩
  go_cut [41] from 38 to 41 (fun v wx => v = .bool (fz || tz) ∧ SOk Γ w m ev P0 wx ∧ Owp (MayT Γ) w3 wx)
  case first =>
    cases fz
    · cases tz
      · go_wp2_with fail
        go_meet
        case rel => exact ⟨rfl, HS3.out, Owp.refl _ _⟩
      · go_wp2_with fail
        go_meet
        case rel => exact ⟨rfl, HS3.out, Owp.refl _ _⟩
    · go_wp2_with fail
      go_meet
      case rel => exact ⟨rfl, HS3.out, Owp.refl _ _⟩
  case rest =>
    obtain ⟨rfl, hs4, ho4⟩ := hcut
    have HS4 := Lib.hid hs4
    have HO4 := Lib.hid (HO3.out.trans ho4)
    clear hs4 ho4 HS3 HO3 HW3 HB3
    obtain ⟨T, hT⟩ : ∃ T, (fz || tz) = T := ⟨_, rfl⟩
    rw [hT] at HDE ⊢
    clear hT
    have HB4 := Lib.hid (HAW.out wc HO4.out)
    obtain ⟨w4, hw4⟩ : ∃ w4, wc = w4 := ⟨_, rfl⟩
    rw [hw4] at HS4 HO4 HB4 ⊢
    clear hw4
    go_upto_if 41 with (fail)
    go_cut [] from 42 to 47 (fun wx => SOk Γ w m ev (P0 ++ DE) wx ∧ Owp (MayT Γ) w4 wx)
    case first =>
      obtain ⟨x0, x1', x2, x3, xf⟩ := (HB4.out).facts
      cases T
      · have HXF : Hid (DE = []) := HDE.out
        go_wp2_with fail
        go_meet
        case rel =>
          rw [HXF.out, List.append_nil]
          exact ⟨HS4.out, Owp.refl _ _⟩
      · have HXF : Hid (DE = [.bad 280 n p]) := HDE.out
        obtain ⟨-, -, -, -, c4, -, -, -⟩ := HS4.out.2.1.cells
        have hw2 := HW.out.2 k n (some ⟨B, o, none⟩) 2 c p 280 w4.drew
        have egw := HW.out.1
        go_upto_region 4 with (fail)
        go_still_tail 5, (by kernel_rfl)
        change wpList _ _ _ _ _ (World.drew w4)
        have HOa : Hid (Owp (MayT Γ) w4 w4.drew) := Lib.hid (Owp.of_below (Below.refl _ _).drew)
        have HSa : Hid (SOk Γ w m ev P0 w4.drew) := Lib.hid ⟨HS4.out.1, HS4.out.2.1.same fun _ _ => rfl, HS4.out.2.2.trans HOa.out⟩
        generalize World.drew w4 = wa at *
        go_wp2_with fail
        go_at_fn Γ.wf
        refine hw2.mono ?_
        clear hw2 x0 x1' x2 x3 xf c4
        rintro e wb (⟨ha, rfl, hb⟩ | ⟨ha, hb, b, hbl, rfl, hf⟩)
        · have HOb := Lib.hid (HOa.out.below hb)
          have HOK : Hid (SOk Γ w m ev (P0 ++ DE) wb) := by
            show SOk _ _ _ _ _ _
            rw [HXF.out]
            exact HSa.out.trans ⟨.inl ha, (HSa.out.2.1.below hb).badly _ _ _, Owp.of_below hb⟩
          clear ha hb
          go_wp2_with fail
          go_meet
          case rel => exact ⟨HOK.out, HOb.out⟩
        · refine ⟨rfl, .inr ?_⟩
          rw [HTOT.out, HXF.out]
          exact SBad.left (SBad.right HSa.out ⟨ha, 280, n, p, b, rfl, hbl, rfl, hf, Owp.of_below hb⟩) _
    case rest =>
      obtain ⟨hs5, ho5⟩ := hcut
      have HS5 : Hid (SOk Γ w m ev DE wc) := Lib.hid (by rw [← HP0.out] at hs5; exact hs5)
      have HO5 := Lib.hid (HO4.out.trans ho5)
      clear hs5 ho5 HS4 HB4 HTOT HO4
      have HB5 := Lib.hid (HAW.out wc HO5.out)
      obtain ⟨x0, x1', x2, x3, xf⟩ := HB5.out.facts
      have y2 := HKW.out wc HS5.out.2.2
      obtain ⟨w5, hw5⟩ : ∃ w5, wc = w5 := ⟨_, rfl⟩
      rw [hw5] at HS5 HO5 x0 x1' x2 x3 xf y2 ⊢
      clear HB5 hw5
      have hd5 : Below w5.heap.size w5 w5.drew := (Below.refl _ _).drew
      have HS5' := Lib.hid (⟨HS5.out.1, HS5.out.2.1.below hd5, HS5.out.2.2.below hd5⟩ : SOk Γ w m ev DE w5.drew)
      have HO5' := Lib.hid (HO5.out.below hd5)
      have cw := with_any (MayT Γ) ρ _ 1 n L false (by decide) w5.drew (HENV.out.owp HS5'.out.2.2) HS5'.out.2.1.may
      go_upto_region 5 with (fail)
      go_still_tail 13, (by kernel_rfl)
      change wpList _ _ _ _ _ (World.drew w5)
      clear hd5 HS5 HO5
      generalize World.drew w5 = w6 at *
      go_wp2_with fail
      refine cw.mono ?_
      clear cw x0 x1' x2 x3 xf y2
      rintro e w7 ⟨u3, rfl, he7, hb7⟩
      have HS7 := Lib.hid (⟨HS5'.out.1, HS5'.out.2.1.below hb7, HS5'.out.2.2.below hb7⟩ : SOk Γ w m ev DE w7)
      have HO7 := Lib.hid (HO5'.out.below hb7)
      have HE7 := Lib.hid he7
      clear he7 hb7 HS5' HO5'
      go_upto_region 6 with (fail)
      have cw := within_any (MayT Γ) _ u3 w7 HE7.out HS7.out.2.1.may
      go_wp2_with fail
      refine cw.mono ?_
      clear cw
      rintro e w8 ⟨u13, rfl, he8, hb8⟩
      have HS8 := Lib.hid (⟨HS7.out.1, HS7.out.2.1.below hb8, HS7.out.2.2.below hb8⟩ : SOk Γ w m ev DE w8)
      have HO8 := Lib.hid (HO7.out.below hb8)
      have HE8 := Lib.hid he8
      have HE3 := Lib.hid (HE7.out.below hb8)
      clear he8 hb8 HS7 HO7 HE7
      have HB8 := Lib.hid (HAW.out w8 HO8.out)
      obtain ⟨x0, x1', x2, x3, xf⟩ := HB8.out.facts
      have y2 := HKW.out w8 HS8.out.2.2
      go_upto_region 7 with (fail)
      obtain ⟨ρ1, hρ1⟩ : ∃ r, none :: some (1, n, L) :: ρ = r := ⟨_, rfl⟩
      rw [HLL.out] at HREST
      rw [hρ1] at HE8 HREST
      have HR1 := Lib.hid hρ1
      clear hρ1
      go_wp2_with fail
      go_loopg [13, 70] L (fun g u v wx => ∃ i : Nat, v = .int .i64 i ∧ i + g = L ∧ EnvAt wx (MayT Γ) (parV ρ1 (l0.take i)) u ∧ SOk Γ w m ev (DE ++ parE ρ1 (l0.take i)) wx ∧ Owp (MayT Γ) w8 wx)
      case atStart => exact ⟨0, rfl, by omega, HE8.out, by (rw [List.take_zero]; show SOk _ _ _ _ (DE ++ []) _; rw [List.append_nil]; exact HS8.out), Owp.refl _ _⟩
      case round =>
        clear x0 x1' x2 x3 xf y2 HE8 HB8
        obtain ⟨i, rfl, hi, hen, hok, how⟩ := hrel
        have HEN := Lib.hid hen
        have HOK := Lib.hid hok
        have HOW := Lib.hid how
        clear hok hen how
        by_cases hlt : i < L
        · obtain ⟨x, hx⟩ : ∃ x, l0[i]? = some x := ⟨l0[i]'(by have := HLL.out; omega), List.getElem?_eq_getElem _⟩
          obtain ⟨B1, o1, rfl, hat⟩ := (NdRow.mono (fun _ h _ => h) (fun b hb hl => HOK.out.2.2.block b hl hb) _ _ HROW.out : NdRow wr (fun b => ¬ MayT Γ b) l0 y0).at_ hx
          have htk : l0.take (i + 1) = l0.take i ++ [x] := by rw [List.take_add_one, hx]; rfl
          obtain ⟨k1, n1, l1, p1⟩ := x
          have hevs : parE ρ1 (l0.take (i + 1)) = parE ρ1 (l0.take i) ++ dupE (parV ρ1 (l0.take i)) n1 p1 := by
            rw [htk, parE_app]
            show _ ++ (dupE _ _ _ ++ []) = _
            rw [List.append_nil]
          have henv : parV ρ1 (l0.take (i + 1)) = some (0, n1, 0) :: parV ρ1 (l0.take i) := by
            rw [htk, parV_app]
            rfl
          obtain ⟨R2, hcat⟩ : ∃ R2, DE ++ REST = ((DE ++ parE ρ1 (l0.take i)) ++ dupE (parV ρ1 (l0.take i)) n1 p1) ++ R2 := by
            have h1 : l0 = l0.take (i + 1) ++ l0.drop (i + 1) := (List.take_append_drop _ _).symm
            have h2 : parE ρ1 l0 = parE ρ1 (l0.take (i + 1)) ++ parE (parV ρ1 (l0.take (i + 1))) (l0.drop (i + 1)) := by
              conv => lhs; rw [h1]
              exact parE_app _ _ _
            refine ⟨parE (parV ρ1 (l0.take (i + 1))) (l0.drop (i + 1)) ++ evEs (parV ρ1 l0) [x1], ?_⟩
            rw [← HREST.out, h2, hevs]
            simp only [List.append_assoc]
          obtain ⟨-, z0, z1, z3, y1, c1, z2, -⟩ := hat
          have HEV := Lib.hid hevs
          have HNV := Lib.hid henv
          have hlt' : (i : Int) < (L : Int) := by omega
          have Qi1 : IntKind.i64.wrap ((i : Int) + 1) = (i : Int) + 1 := IntWalk.i64_in _ (by omega)
          obtain ⟨ρi, hρi⟩ : ∃ r, parV ρ1 (l0.take i) = r := ⟨_, rfl⟩
          obtain ⟨PE, hPE⟩ : ∃ r, DE ++ parE ρ1 (l0.take i) = r := ⟨_, rfl⟩
          obtain ⟨DU, hDU⟩ : ∃ r, dupE ρi n1 p1 = r := ⟨_, rfl⟩
          rw [hρi] at HEN hcat HEV HNV
          rw [hDU] at hcat HEV
          rw [hPE] at HOK hcat
          have HPE := Lib.hid hPE
          have HDU := Lib.hid hDU
          have HTOT1 := Lib.hid hcat
          clear hx hevs henv htk hρi hPE hDU hcat
          go_upto_region 10 with (fail)
          have hal : Below wr.heap.size wr (wr.alloc (.cells #[.int .i64 k1, .string ⟨n1.toArray⟩, .slice y1 l1.length c1, .int .i64 p1] 53)) := (Below.refl _ _).alloc (Nat.le_refl _) _
          have HS1 : Hid (SOk Γ w m ev PE _) := Lib.hid ⟨HOK.out.1, HOK.out.2.1.below hal, HOK.out.2.2.below hal⟩
          have HOW1 := Lib.hid (HOW.out.below hal)
          have HEN1 := Lib.hid (HEN.out.below hal)
          have HBX := Lib.hid (Box4.new wr (.int .i64 k1) (.string ⟨n1.toArray⟩) (.slice y1 l1.length c1) (.int .i64 p1))
          have hfresh : w.heap.size ≤ wr.heap.size := HOK.out.2.2.size
          obtain ⟨bx, hbx⟩ : ∃ bx, wr.heap.size = bx := ⟨_, rfl⟩
          rw [hbx] at HBX hfresh ⊢
          have HFR := Lib.hid hfresh
          clear hbx z0 z1 z2 z3 HOK hal HOW HEN hfresh
          generalize World.alloc wr (.cells #[.int .i64 k1, .string ⟨n1.toArray⟩, .slice y1 l1.length c1, .int .i64 p1] 53) = w1 at HS1 HOW1 HEN1 HBX ⊢
          have hbw : ∀ w2, Owp (MayT Γ) w1 w2 → Box4 w2 bx (.int .i64 k1) (.string ⟨n1.toArray⟩) (.slice y1 l1.length c1) (.int .i64 p1) := fun w2 ho => ho.keep (fun hm => by have := HMAY.out bx hm; have := HFR.out; omega) HBX.out
          have HBW := Lib.hid hbw
          clear hbw
          obtain ⟨x0, x1', x2, x3, xf⟩ := HBX.out.facts
          obtain ⟨F1, cap1, rfl, eg1, hc⟩ := env_any _ _ _ _ HEN1.out
          have c0 := hc 0 n1 true
          unfold TkEnd at c0
          obtain ⟨sx, hsx⟩ : ∃ x, tkA ρi 0 n1 true = x := ⟨_, rfl⟩
          obtain ⟨sy, hsy⟩ : ∃ x, tkB ρi 0 n1 true = x := ⟨_, rfl⟩
          obtain ⟨sz, hsz⟩ : ∃ x, (findE ρi 0 n1 true).isSome = x := ⟨_, rfl⟩
          rw [hsx, hsy, hsz] at c0
          obtain ⟨tb, htb⟩ : ∃ x, truthB n1 = x := ⟨_, rfl⟩
          have HDUE : Hid (DU = if sz || tb then [.bad 280 n1 p1] else []) := Lib.hid (by
            rw [← HDU.out, ← hsz, ← htb]
            rfl)
          have HTB := Lib.hid htb
          clear hc hsx hsy hsz htb
          go_wp2_with fail
          go_at_fn F1
          refine c0.mono ?_
          clear c0 x0 x1' x2 x3 xf
          rintro e w2 ⟨rfl, hb2⟩
          go_upto_region 11 with (fail)
          have hb3 : Below w1.heap.size w1 (w2.alloc (.cells #[.int .i64 sx, .bool sy] 171)) := tr hb2 ((Below.refl _ _).alloc (Nat.le_refl _) _)
          have HS3 := Lib.hid (⟨HS1.out.1, HS1.out.2.1.below hb3, HS1.out.2.2.below hb3⟩ : SOk Γ w m ev PE _)
          have HO3 : Hid (Owp (MayT Γ) w1 _) := Lib.hid (Owp.of_below hb3)
          clear hb2 hb3 HS1
          generalize World.alloc w2 (.cells #[.int .i64 sx, .bool sy] 171) = w3 at HS3 HO3 ⊢
          have HB3 := Lib.hid (HBW.out w3 HO3.out)
          obtain ⟨x0, x1', x2, x3, xf⟩ := HB3.out.facts
          have ct := truth_any n1 w3
          rw [HTB.out] at ct
          go_cut [86] from 81 to 86 (fun v wx => v = .bool (sz || tb) ∧ SOk Γ w m ev PE wx ∧ Owp (MayT Γ) w1 wx)
          case first =>
            cases sz
            · go_wp2_with (first | (go_at_call 203; (with_reducible refine ct.mono ?_); rintro e w4 ⟨rfl, rfl⟩))
              go_meet
              case rel => exact ⟨rfl, HS3.out, HO3.out⟩
            · go_wp2_with fail
              go_meet
              case rel => exact ⟨rfl, HS3.out, HO3.out⟩
          case rest =>
            obtain ⟨rfl, hs4, ho4⟩ := hcut
            have HS4 := Lib.hid hs4
            have HO4 := Lib.hid ho4
            clear hs4 ho4 HS3 HO3 HB3 x0 x1' x2 x3 xf ct
            obtain ⟨T, hT⟩ : ∃ T, (sz || tb) = T := ⟨_, rfl⟩
            rw [hT] at HDUE ⊢
            clear hT
            have HB4 := Lib.hid (HBW.out wc HO4.out)
            obtain ⟨w4, hw4⟩ : ∃ w4, wc = w4 := ⟨_, rfl⟩
            rw [hw4] at HS4 HO4 HB4 ⊢
            clear hw4
            go_upto_if 86 with (fail)
            go_cut [] from 87 to 92 (fun wx => SOk Γ w m ev (PE ++ DU) wx ∧ Owp (MayT Γ) w4 wx)
            case first =>
              obtain ⟨x0, x1', x2, x3, xf⟩ := (HB4.out).facts
              cases T
              · have HXF : Hid (DU = []) := HDUE.out
                go_wp2_with fail
                go_meet
                case rel =>
                  rw [HXF.out, List.append_nil]
                  exact ⟨HS4.out, Owp.refl _ _⟩
              · have HXF : Hid (DU = [.bad 280 n1 p1]) := HDUE.out
                obtain ⟨-, -, -, -, c4, -, -, -⟩ := HS4.out.2.1.cells
                have hw2 := HW.out.2 k1 n1 y1 l1.length c1 p1 280 w4.drew
                have egw := HW.out.1
                go_upto_region 12 with (fail)
                go_still_tail 5, (by kernel_rfl)
                change wpList _ _ _ _ _ (World.drew w4)
                have HOa : Hid (Owp (MayT Γ) w4 w4.drew) := Lib.hid (Owp.of_below (Below.refl _ _).drew)
                have HSa : Hid (SOk Γ w m ev PE w4.drew) := Lib.hid ⟨HS4.out.1, HS4.out.2.1.same fun _ _ => rfl, HS4.out.2.2.trans HOa.out⟩
                generalize World.drew w4 = wa at *
                go_wp2_with fail
                go_at_fn Γ.wf
                refine hw2.mono ?_
                clear hw2 x0 x1' x2 x3 xf c4
                rintro e wb (⟨ha, rfl, hb⟩ | ⟨ha, hb, b, hbl, rfl, hf⟩)
                · have HOb := Lib.hid (HOa.out.below hb)
                  have HOK : Hid (SOk Γ w m ev (PE ++ DU) wb) := by
                    show SOk _ _ _ _ _ _
                    rw [HXF.out]
                    exact HSa.out.trans ⟨.inl ha, (HSa.out.2.1.below hb).badly _ _ _, Owp.of_below hb⟩
                  clear ha hb
                  go_wp2_with fail
                  go_meet
                  case rel => exact ⟨HOK.out, HOb.out⟩
                · refine ⟨rfl, .inr ?_⟩
                  rw [HTOT1.out, HXF.out]
                  exact SBad.left (SBad.right HSa.out ⟨ha, 280, n1, p1, b, rfl, hbl, rfl, hf, Owp.of_below hb⟩) _
            case rest =>
              obtain ⟨hs5, ho5⟩ := hcut
              have HS5 := Lib.hid hs5
              have HO5 := Lib.hid (HO4.out.trans ho5)
              have HB5 := Lib.hid (HBW.out wc HO5.out)
              clear hs5 ho5 HS4 HO4 HB4
              obtain ⟨x0, x1', x2, x3, xf⟩ := HB5.out.facts
              have cw := with_any (MayT Γ) ρi _ 0 n1 0 false (by decide) wc (HEN1.out.owp HO5.out) HS5.out.2.1.may
              go_wp2_with fail
              refine cw.mono ?_
              clear cw x0 x1' x2 x3 xf
              rintro e w6 ⟨u6, rfl, he6, hb6⟩
              have HE6 : Hid (EnvAt w6 (MayT Γ) (parV ρ1 (l0.take (i + 1))) u6) := by
                show EnvAt _ _ _ _
                rw [HNV.out]
                exact he6
              have HS6 : Hid (SOk Γ w m ev (DE ++ parE ρ1 (l0.take (i + 1))) w6) := by
                show SOk _ _ _ _ _ _
                rw [HEV.out, ← List.append_assoc, HPE.out]
                exact ⟨HS5.out.1, HS5.out.2.1.below hb6, HS5.out.2.2.below hb6⟩
              have HO6 := Lib.hid ((HOW1.out.trans HO5.out).below hb6)
              clear he6 hb6
              go_wp2_with fail
              go_roundg (gk - 1)
              case measure => omega
              case rel => exact ⟨i + 1, rfl, by omega, HE6.out, HS6.out, HO6.out⟩
        · have hlt' : ¬ (i : Int) < (L : Int) := by omega
          have htk : l0.take i = l0 := List.take_of_length_le (by have := HLL.out; omega)
          rw [htk] at HEN HOK
          clear htk
          have HBZ := Lib.hid (HAW.out wr (HO8.out.trans HOW.out))
          have HE9 := Lib.hid (HE3.out.owp HOW.out)
          obtain ⟨x0, x1', x2, x3, xf⟩ := HBZ.out.facts
          have HOWR := HOW
          clear HBZ HE3 HS8 HOW
          obtain ⟨k1, n1, l1, p1⟩ := x1
          obtain ⟨hok1, z0, z1, z3, y1, c1, z2, hk1⟩ := (HAT1.out.mono (fun _ h _ => h) (fun b hb hl => HOK.out.2.2.block b hl hb) : NdAt wr (fun b => ¬ MayT Γ b) (.mk k1 n1 l1 p1) B (o + 4))
          have hcat : DE ++ REST = (DE ++ parE ρ1 l0) ++ evE (parV ρ1 l0) (.mk k1 n1 l1 p1) := by
            rw [← HREST.out]
            show DE ++ (parE ρ1 l0 ++ (evE (parV ρ1 l0) (.mk k1 n1 l1 p1) ++ [])) = _
            rw [List.append_nil, List.append_assoc]
          have HCAT := Lib.hid hcat
          obtain ⟨PE, hPE⟩ : ∃ r, DE ++ parE ρ1 l0 = r := ⟨_, rfl⟩
          rw [hPE] at HOK HCAT
          clear hcat hPE
          have cx := HX.out wr m _ (parV ρ1 l0) (.agg #[.int .i64 k1, .string ⟨n1.toArray⟩, .slice y1 l1.length c1, .int .i64 p1]) _ ⟨y1, c1, rfl, hk1⟩ HEN.out HOK.out.2.1 (by
            have := HL.out
            rw [HCAT.out] at this
            simp only [List.length_append] at this ⊢
            omega)
          clear hk1 hok1
          go_wp2_with fail
          refine cx.mono ?_
          clear cx x0 x1' x2 x3 xf z0 z1 z2 z3
          rintro e w2 (⟨rfl, hok⟩ | hbad)
          · have HOK2 := Lib.hid (HOK.out.trans hok)
            have HE2 := Lib.hid (HE9.out.owp hok.2.2)
            clear hok
            go_wp2_with fail
            go_ret
            refine .inl ⟨_, rfl, ?_, ?_⟩
            · show EnvAt _ _ (some (1, n, l0.length) :: ρ) _
              rw [HLL.out]
              exact HE2.out
            · rw [HCAT.out]
              exact HOK2.out
          · have hb2 : SBad Γ w (DE ++ REST) e w2 := by
              rw [HCAT.out]
              exact SBad.right HOK.out hbad
            obtain ⟨ch, rfl⟩ := hbad.pan
            exact ⟨rfl, .inr hb2⟩
set_option maxHeartbeats 4000000 in
set_option maxRecDepth 100000 in
theorem body2_step (Γ : SCtx) (hw : WrongOk Γ) (k : Int) (n : List UInt8) (k0 : Int) (n0 : List UInt8) (l0 : List Nd) (p0 : Int) (x1 : Nd) (p : Int) (hX : BlockOk Γ x1.kids) :
    BodyOk Γ 2 (fun ρ m => defE ρ 2 n p ++ (parE (none :: some (2, n, l0.length) :: ρ) l0 ++ evBs [x1] (parV (none :: some (2, n, l0.length) :: ρ) l0) (m + 1))) k n [.mk k0 n0 l0 p0, x1] p := by
  intro w m ev ρ v u hv hu h hwt hl
  dsimp only at hl ⊢
  obtain ⟨y, cv, rfl, hrow⟩ := hv
  generalize cv.val = c
  clear cv
  obtain ⟨B, o, rfl, hat, hrow1⟩ := hrow
  obtain ⟨hokb, -, -, -, y0, cv0, hy2, hk0⟩ := hat
  generalize cv0.val = c0' at hy2
  clear cv0
  obtain ⟨B', o', hBo, hat1, -⟩ := hrow1
  cases hBo
  have hA : Below w.heap.size w (w.alloc (.cells #[.int .i64 k, .string ⟨n.toArray⟩, .slice (some ⟨B, o, none⟩) 2 c, .int .i64 p] 53)) := (Below.refl _ _).alloc (Nat.le_refl _) _
  obtain ⟨F, cap, rfl, eg, -⟩ := env_any _ ρ u w hu
  obtain ⟨L, hL⟩ : ∃ L, l0.length = L := ⟨_, rfl⟩
  have HKW : Hid (∀ w1, Owp (MayT Γ) w w1 → w1.cell? ⟨B, o + 2, none⟩ = some (.slice y0 L c0')) := Lib.hid fun w1 ho => by rw [← hL]; exact ho.cell (p := ⟨B, o + 2, none⟩) hokb.ok hy2
  have H0 := Lib.hid (SOk.start h hA)
  have HB := Lib.hid (Box4.new w (.int .i64 k) (.string ⟨n.toArray⟩) (.slice (some ⟨B, o, none⟩) 2 c) (.int .i64 p))
  have HROW := Lib.hid hk0
  have HAT1 := Lib.hid hat1
  have HENV := Lib.hid hu
  have HW := Lib.hid hw
  have HX := Lib.hid hX
  have HL := Lib.hid hl
  have HA := Lib.hid hA
  have HMAY := Lib.hid h.may
  have HWT := Lib.hid hwt
  have HLL := Lib.hid hL
  have hwt2 : wtN (.mk k n [.mk k0 n0 l0 p0, x1] p) = (wtL l0 + n0.length + 1 + (wtN x1 + 0)) + n.length + 1 := by
    rw [wtN_mk]
    show (wtN (.mk k0 n0 l0 p0) + (wtN x1 + 0)) + _ + _ = _
    rw [wtN_mk]
  have HWT2 := Lib.hid hwt2
  have hLs : L < 2 ^ 40 := by
    have h1 := len_wtL l0
    omega
  have HN : Hid (n.length < 2 ^ 40) := Lib.hid (by omega)
  clear hA hu hw hX hl hwt hk0 hokb hy2 hwt2 hat1
  have hc := (env_any _ ρ _ _ (HENV.out.below HA.out))
  obtain ⟨F', cap', hf, -, hc⟩ := hc
  cases hf
  have c0 := hc 2 n true
  unfold TkEnd at c0
  obtain ⟨tx, htx⟩ : ∃ x, tkA ρ 2 n true = x := ⟨_, rfl⟩
  obtain ⟨ty, hty⟩ : ∃ x, tkB ρ 2 n true = x := ⟨_, rfl⟩
  obtain ⟨tz, htz⟩ : ∃ x, (findE ρ 2 n true).isSome = x := ⟨_, rfl⟩
  rw [htx, hty, htz] at c0
  have HTZ := Lib.hid htz
  clear hc htx hty htz h hL
  obtain ⟨fz, hfz⟩ : ∃ x, (mdB n).isSome = x := ⟨_, rfl⟩
  have HFZ := Lib.hid hfz
  obtain ⟨P0, hP0⟩ : ∃ P : List Ev, [] = P := ⟨_, rfl⟩
  obtain ⟨DE, hDE⟩ : ∃ D, defE ρ 2 n p = D := ⟨_, rfl⟩
  have HDE : Hid (DE = if fz || tz then [.bad 280 n p] else []) := Lib.hid (by
    rw [← hDE, ← HFZ.out, ← HTZ.out]
    unfold defE
    simp)
  rw [hDE] at HL ⊢
  obtain ⟨REST, hREST⟩ : ∃ D, parE (none :: some (2, n, l0.length) :: ρ) l0 ++ evBs [x1] (parV (none :: some (2, n, l0.length) :: ρ) l0) (m + 1) = D := ⟨_, rfl⟩
  have HREST := Lib.hid hREST
  rw [hREST] at HL ⊢
  have HTOT : Hid (DE ++ REST = (P0 ++ DE) ++ REST) := Lib.hid (by rw [← hP0]; rfl)
  have HP0 := Lib.hid hP0
  clear hP0 hDE hREST hfz
  go_enter Tryz.func206, Tryz.ntmps206
  go_upto_region 1 with (fail)
  obtain ⟨a, ha⟩ : ∃ a, w.heap.size = a := ⟨_, rfl⟩
  rw [ha] at HB ⊢
  have HAA := Lib.hid ha
  clear ha
  generalize World.alloc w (.cells #[.int .i64 k, .string ⟨n.toArray⟩, .slice (some ⟨B, o, none⟩) 2 c, .int .i64 p] 53) = W at HA H0 HB c0 ⊢
  have haw : ∀ w1, Owp (MayT Γ) W w1 → Box4 w1 a (.int .i64 k) (.string ⟨n.toArray⟩) (.slice (some ⟨B, o, none⟩) 2 c) (.int .i64 p) := fun w1 ho => (ho.block a HB.out.lt (fun hm => by have := HMAY.out a hm; have := HAA.out; omega)).trans HB.out
  have HAW := Lib.hid haw
  clear haw
  have hW0 : WSt Γ W m ev := by
    have := H0.out.2.1
    rwa [List.append_nil] at this
  have HW0 := Lib.hid hW0
  obtain ⟨x0, x1', x2, x3, xf⟩ := HB.out.facts
  clear hW0
  go_wp2_with fail
  go_at_fn F
  refine c0.mono ?_
  clear c0 x0 x1' x2 x3 xf
  rintro e w1 ⟨rfl, hb1⟩
  go_upto_region 2 with (fail)
  have hal : Below w1.heap.size w1 (w1.alloc (.cells #[.int .i64 tx, .bool ty] 171)) := (Below.refl _ _).alloc (Nat.le_refl _) _
  have HW2 := Lib.hid ((HW0.out.below hb1).below hal)
  have HO2 : Hid (Owp (MayT Γ) W _) := Lib.hid ((Owp.of_below hb1).below hal)
  clear hal hb1
  generalize World.alloc w1 (.cells #[.int .i64 tx, .bool ty] 171) = w2 at HW2 HO2 ⊢
  have HB2 := Lib.hid (HAW.out w2 HO2.out)
  obtain ⟨b9, hb9⟩ : ∃ b9, w2.heap.size = b9 := ⟨_, rfl⟩
  have hz : Below w2.heap.size w2 (w2.alloc (.cells #[.int .i64 0, .bool false] 171)) := (Below.refl _ _).alloc (Nat.le_refl _) _
  have HWZ := Lib.hid (HW2.out.below hz)
  have HOZ := Lib.hid (HO2.out.below hz)
  have HTZ2 := Lib.hid (Box2.new w2 (.int .i64 0) (.bool false))
  have hb9a : W.heap.size ≤ b9 := by
    have := HO2.out.size
    omega
  have HB9 := Lib.hid hb9a
  rw [hb9] at HTZ2
  have HB2Z := Lib.hid (HAW.out _ HOZ.out)
  obtain ⟨x0, x1', x2, x3, xf⟩ := HB2Z.out.facts
  obtain ⟨-, c1, c2, -, -, -, -, -⟩ := HWZ.out.cells
  obtain ⟨x0b, x1b, x2b, x3b, xfb⟩ := HB2.out.facts
  obtain ⟨-, c1b, c2b, -, -, -, -, -⟩ := HW2.out.cells
  have t0 : (w2.alloc (.cells #[.int .i64 0, .bool false] 171)).cell? ⟨b9, 0, none⟩ = some (.int .i64 0) := by simp [World.cell?, HTZ2.out]
  have t1 : (w2.alloc (.cells #[.int .i64 0, .bool false] 171)).cell? ⟨b9, 1, none⟩ = some (.bool false) := by simp [World.cell?, HTZ2.out]
  have tf : ∀ o, (w2.alloc (.cells #[.int .i64 0, .bool false] 171)).frozen? ⟨b9, o, none⟩ = false := fun o => by simp only [World.frozen?, HTZ2.out]; simp
  obtain ⟨lx, lz, hlooks⟩ := TkMap.lookAll (HW2.out.mds) n (by have := HN.out; unfold maxLen; omega)
  have hlook := hlooks w2.drew rfl
  have hlook2 := hlooks (w2.alloc (.cells #[.int .i64 0, .bool false] 171)).drew (hz.block _ HW2.out.mds.lt)
  rw [HFZ.out] at hlook hlook2
  clear hz hb9a hlooks
  go_cut [11, 12] from 26 to 37 (fun _ v wx => v = .bool fz ∧ Below w2.heap.size w2 wx)
  case first =>
    go_region
    all_goals go_wp2_with fail
    all_goals go_meet
    all_goals refine ⟨rfl, ?_⟩
    all_goals (first | exact ((Below.refl _ _).alloc (Nat.le_refl _) _).drew | exact ((Below.refl _ _).drew).alloc (Nat.le_refl _) _)
  case rest =>
  obtain ⟨rfl, hb3⟩ := hcut
  have HW3 := Lib.hid (HW2.out.below hb3)
  have HO3 := Lib.hid (HO2.out.below hb3)
  clear hlook hlook2 c1 c2 c1b c2b x0 x1' x2 x3 xf x0b x1b x2b x3b xfb t0 t1 tf hb3 HW2 HO2 HWZ HOZ HTZ2 HB2Z HB2
  obtain ⟨w3, hw3⟩ : ∃ w3, wc = w3 := ⟨_, rfl⟩
  rw [hw3] at HW3 HO3 ⊢
  clear hw3
  go_upto_region 3 with (fail)
  have HB3 := Lib.hid (HAW.out w3 HO3.out)
  have HS3 : Hid (SOk Γ w m ev P0 w3) := Lib.hid ⟨.inr (by rw [← HP0.out]; rfl), by rw [← HP0.out]; exact HW3.out.nil, (Owp.of_below HA.out).trans HO3.out⟩
  go_cut [41] from 38 to 41 (fun v wx => v = .bool (fz || tz) ∧ SOk Γ w m ev P0 wx ∧ Owp (MayT Γ) w3 wx)
  case first =>
    cases fz
    · cases tz
      · go_wp2_with fail
        go_meet
        case rel => exact ⟨rfl, HS3.out, Owp.refl _ _⟩
      · go_wp2_with fail
        go_meet
        case rel => exact ⟨rfl, HS3.out, Owp.refl _ _⟩
    · go_wp2_with fail
      go_meet
      case rel => exact ⟨rfl, HS3.out, Owp.refl _ _⟩
  case rest =>
    obtain ⟨rfl, hs4, ho4⟩ := hcut
    have HS4 := Lib.hid hs4
    have HO4 := Lib.hid (HO3.out.trans ho4)
    clear hs4 ho4 HS3 HO3 HW3 HB3
    obtain ⟨T, hT⟩ : ∃ T, (fz || tz) = T := ⟨_, rfl⟩
    rw [hT] at HDE ⊢
    clear hT
    have HB4 := Lib.hid (HAW.out wc HO4.out)
    obtain ⟨w4, hw4⟩ : ∃ w4, wc = w4 := ⟨_, rfl⟩
    rw [hw4] at HS4 HO4 HB4 ⊢
    clear hw4
    go_upto_if 41 with (fail)
    go_cut [] from 42 to 47 (fun wx => SOk Γ w m ev (P0 ++ DE) wx ∧ Owp (MayT Γ) w4 wx)
    case first =>
      obtain ⟨x0, x1', x2, x3, xf⟩ := (HB4.out).facts
      cases T
      · have HXF : Hid (DE = []) := HDE.out
        go_wp2_with fail
        go_meet
        case rel =>
          rw [HXF.out, List.append_nil]
          exact ⟨HS4.out, Owp.refl _ _⟩
      · have HXF : Hid (DE = [.bad 280 n p]) := HDE.out
        obtain ⟨-, -, -, -, c4, -, -, -⟩ := HS4.out.2.1.cells
        have hw2 := HW.out.2 k n (some ⟨B, o, none⟩) 2 c p 280 w4.drew
        have egw := HW.out.1
        go_upto_region 4 with (fail)
        go_still_tail 5, (by kernel_rfl)
        change wpList _ _ _ _ _ (World.drew w4)
        have HOa : Hid (Owp (MayT Γ) w4 w4.drew) := Lib.hid (Owp.of_below (Below.refl _ _).drew)
        have HSa : Hid (SOk Γ w m ev P0 w4.drew) := Lib.hid ⟨HS4.out.1, HS4.out.2.1.same fun _ _ => rfl, HS4.out.2.2.trans HOa.out⟩
        generalize World.drew w4 = wa at *
        go_wp2_with fail
        go_at_fn Γ.wf
        refine hw2.mono ?_
        clear hw2 x0 x1' x2 x3 xf c4
        rintro e wb (⟨ha, rfl, hb⟩ | ⟨ha, hb, b, hbl, rfl, hf⟩)
        · have HOb := Lib.hid (HOa.out.below hb)
          have HOK : Hid (SOk Γ w m ev (P0 ++ DE) wb) := by
            show SOk _ _ _ _ _ _
            rw [HXF.out]
            exact HSa.out.trans ⟨.inl ha, (HSa.out.2.1.below hb).badly _ _ _, Owp.of_below hb⟩
          clear ha hb
          go_wp2_with fail
          go_meet
          case rel => exact ⟨HOK.out, HOb.out⟩
        · refine ⟨rfl, .inr ?_⟩
          rw [HTOT.out, HXF.out]
          exact SBad.left (SBad.right HSa.out ⟨ha, 280, n, p, b, rfl, hbl, rfl, hf, Owp.of_below hb⟩) _
    case rest =>
      obtain ⟨hs5, ho5⟩ := hcut
      have HS5 : Hid (SOk Γ w m ev DE wc) := Lib.hid (by rw [← HP0.out] at hs5; exact hs5)
      have HO5 := Lib.hid (HO4.out.trans ho5)
      clear hs5 ho5 HS4 HB4 HTOT HO4
      have HB5 := Lib.hid (HAW.out wc HO5.out)
      obtain ⟨x0, x1', x2, x3, xf⟩ := HB5.out.facts
      have y2 := HKW.out wc HS5.out.2.2
      obtain ⟨w5, hw5⟩ : ∃ w5, wc = w5 := ⟨_, rfl⟩
      rw [hw5] at HS5 HO5 x0 x1' x2 x3 xf y2 ⊢
      clear HB5 hw5
      have hd5 : Below w5.heap.size w5 w5.drew := (Below.refl _ _).drew
      have HS5' := Lib.hid (⟨HS5.out.1, HS5.out.2.1.below hd5, HS5.out.2.2.below hd5⟩ : SOk Γ w m ev DE w5.drew)
      have HO5' := Lib.hid (HO5.out.below hd5)
      have cw := with_any (MayT Γ) ρ _ 2 n L true (by decide) w5.drew (HENV.out.owp HS5'.out.2.2) HS5'.out.2.1.may
      go_upto_region 5 with (fail)
      go_still_tail 13, (by kernel_rfl)
      change wpList _ _ _ _ _ (World.drew w5)
      clear hd5 HS5 HO5
      generalize World.drew w5 = w6 at *
      go_wp2_with fail
      refine cw.mono ?_
      clear cw x0 x1' x2 x3 xf y2
      rintro e w7 ⟨u3, rfl, he7, hb7⟩
      have HS7 := Lib.hid (⟨HS5'.out.1, HS5'.out.2.1.below hb7, HS5'.out.2.2.below hb7⟩ : SOk Γ w m ev DE w7)
      have HO7 := Lib.hid (HO5'.out.below hb7)
      have HE7 := Lib.hid he7
      clear he7 hb7 HS5' HO5'
      go_upto_region 6 with (fail)
      have cw := within_any (MayT Γ) _ u3 w7 HE7.out HS7.out.2.1.may
      go_wp2_with fail
      refine cw.mono ?_
      clear cw
      rintro e w8 ⟨u13, rfl, he8, hb8⟩
      have HS8 := Lib.hid (⟨HS7.out.1, HS7.out.2.1.below hb8, HS7.out.2.2.below hb8⟩ : SOk Γ w m ev DE w8)
      have HO8 := Lib.hid (HO7.out.below hb8)
      have HE8 := Lib.hid he8
      have HE3 := Lib.hid (HE7.out.below hb8)
      clear he8 hb8 HS7 HO7 HE7
      have HB8 := Lib.hid (HAW.out w8 HO8.out)
      obtain ⟨x0, x1', x2, x3, xf⟩ := HB8.out.facts
      have y2 := HKW.out w8 HS8.out.2.2
      go_upto_region 7 with (fail)
      obtain ⟨ρ1, hρ1⟩ : ∃ r, none :: some (2, n, L) :: ρ = r := ⟨_, rfl⟩
      rw [HLL.out] at HREST
      rw [hρ1] at HE8 HREST
      have HR1 := Lib.hid hρ1
      clear hρ1
      go_wp2_with fail
      go_loopg [13, 70] L (fun g u v wx => ∃ i : Nat, v = .int .i64 i ∧ i + g = L ∧ EnvAt wx (MayT Γ) (parV ρ1 (l0.take i)) u ∧ SOk Γ w m ev (DE ++ parE ρ1 (l0.take i)) wx ∧ Owp (MayT Γ) w8 wx)
      case atStart => exact ⟨0, rfl, by omega, HE8.out, by (rw [List.take_zero]; show SOk _ _ _ _ (DE ++ []) _; rw [List.append_nil]; exact HS8.out), Owp.refl _ _⟩
      case round =>
        clear x0 x1' x2 x3 xf y2 HE8 HB8
        obtain ⟨i, rfl, hi, hen, hok, how⟩ := hrel
        have HEN := Lib.hid hen
        have HOK := Lib.hid hok
        have HOW := Lib.hid how
        clear hok hen how
        by_cases hlt : i < L
        · obtain ⟨x, hx⟩ : ∃ x, l0[i]? = some x := ⟨l0[i]'(by have := HLL.out; omega), List.getElem?_eq_getElem _⟩
          obtain ⟨B1, o1, rfl, hat⟩ := (NdRow.mono (fun _ h _ => h) (fun b hb hl => HOK.out.2.2.block b hl hb) _ _ HROW.out : NdRow wr (fun b => ¬ MayT Γ b) l0 y0).at_ hx
          have htk : l0.take (i + 1) = l0.take i ++ [x] := by rw [List.take_add_one, hx]; rfl
          obtain ⟨k1, n1, l1, p1⟩ := x
          have hevs : parE ρ1 (l0.take (i + 1)) = parE ρ1 (l0.take i) ++ dupE (parV ρ1 (l0.take i)) n1 p1 := by
            rw [htk, parE_app]
            show _ ++ (dupE _ _ _ ++ []) = _
            rw [List.append_nil]
          have henv : parV ρ1 (l0.take (i + 1)) = some (0, n1, 0) :: parV ρ1 (l0.take i) := by
            rw [htk, parV_app]
            rfl
          obtain ⟨R2, hcat⟩ : ∃ R2, DE ++ REST = ((DE ++ parE ρ1 (l0.take i)) ++ dupE (parV ρ1 (l0.take i)) n1 p1) ++ R2 := by
            have h1 : l0 = l0.take (i + 1) ++ l0.drop (i + 1) := (List.take_append_drop _ _).symm
            have h2 : parE ρ1 l0 = parE ρ1 (l0.take (i + 1)) ++ parE (parV ρ1 (l0.take (i + 1))) (l0.drop (i + 1)) := by
              conv => lhs; rw [h1]
              exact parE_app _ _ _
            refine ⟨parE (parV ρ1 (l0.take (i + 1))) (l0.drop (i + 1)) ++ evBs [x1] (parV ρ1 l0) (m + 1), ?_⟩
            rw [← HREST.out, h2, hevs]
            simp only [List.append_assoc]
          obtain ⟨-, z0, z1, z3, y1, c1, z2, -⟩ := hat
          have HEV := Lib.hid hevs
          have HNV := Lib.hid henv
          have hlt' : (i : Int) < (L : Int) := by omega
          have Qi1 : IntKind.i64.wrap ((i : Int) + 1) = (i : Int) + 1 := IntWalk.i64_in _ (by omega)
          obtain ⟨ρi, hρi⟩ : ∃ r, parV ρ1 (l0.take i) = r := ⟨_, rfl⟩
          obtain ⟨PE, hPE⟩ : ∃ r, DE ++ parE ρ1 (l0.take i) = r := ⟨_, rfl⟩
          obtain ⟨DU, hDU⟩ : ∃ r, dupE ρi n1 p1 = r := ⟨_, rfl⟩
          rw [hρi] at HEN hcat HEV HNV
          rw [hDU] at hcat HEV
          rw [hPE] at HOK hcat
          have HPE := Lib.hid hPE
          have HDU := Lib.hid hDU
          have HTOT1 := Lib.hid hcat
          clear hx hevs henv htk hρi hPE hDU hcat
          go_upto_region 10 with (fail)
          have hal : Below wr.heap.size wr (wr.alloc (.cells #[.int .i64 k1, .string ⟨n1.toArray⟩, .slice y1 l1.length c1, .int .i64 p1] 53)) := (Below.refl _ _).alloc (Nat.le_refl _) _
          have HS1 : Hid (SOk Γ w m ev PE _) := Lib.hid ⟨HOK.out.1, HOK.out.2.1.below hal, HOK.out.2.2.below hal⟩
          have HOW1 := Lib.hid (HOW.out.below hal)
          have HEN1 := Lib.hid (HEN.out.below hal)
          have HBX := Lib.hid (Box4.new wr (.int .i64 k1) (.string ⟨n1.toArray⟩) (.slice y1 l1.length c1) (.int .i64 p1))
          have hfresh : w.heap.size ≤ wr.heap.size := HOK.out.2.2.size
          obtain ⟨bx, hbx⟩ : ∃ bx, wr.heap.size = bx := ⟨_, rfl⟩
          rw [hbx] at HBX hfresh ⊢
          have HFR := Lib.hid hfresh
          clear hbx z0 z1 z2 z3 HOK hal HOW HEN hfresh
          generalize World.alloc wr (.cells #[.int .i64 k1, .string ⟨n1.toArray⟩, .slice y1 l1.length c1, .int .i64 p1] 53) = w1 at HS1 HOW1 HEN1 HBX ⊢
          have hbw : ∀ w2, Owp (MayT Γ) w1 w2 → Box4 w2 bx (.int .i64 k1) (.string ⟨n1.toArray⟩) (.slice y1 l1.length c1) (.int .i64 p1) := fun w2 ho => ho.keep (fun hm => by have := HMAY.out bx hm; have := HFR.out; omega) HBX.out
          have HBW := Lib.hid hbw
          clear hbw
          obtain ⟨x0, x1', x2, x3, xf⟩ := HBX.out.facts
          obtain ⟨F1, cap1, rfl, eg1, hc⟩ := env_any _ _ _ _ HEN1.out
          have c0 := hc 0 n1 true
          unfold TkEnd at c0
          obtain ⟨sx, hsx⟩ : ∃ x, tkA ρi 0 n1 true = x := ⟨_, rfl⟩
          obtain ⟨sy, hsy⟩ : ∃ x, tkB ρi 0 n1 true = x := ⟨_, rfl⟩
          obtain ⟨sz, hsz⟩ : ∃ x, (findE ρi 0 n1 true).isSome = x := ⟨_, rfl⟩
          rw [hsx, hsy, hsz] at c0
          obtain ⟨tb, htb⟩ : ∃ x, truthB n1 = x := ⟨_, rfl⟩
          have HDUE : Hid (DU = if sz || tb then [.bad 280 n1 p1] else []) := Lib.hid (by
            rw [← HDU.out, ← hsz, ← htb]
            rfl)
          have HTB := Lib.hid htb
          clear hc hsx hsy hsz htb
          go_wp2_with fail
          go_at_fn F1
          refine c0.mono ?_
          clear c0 x0 x1' x2 x3 xf
          rintro e w2 ⟨rfl, hb2⟩
          go_upto_region 11 with (fail)
          have hb3 : Below w1.heap.size w1 (w2.alloc (.cells #[.int .i64 sx, .bool sy] 171)) := tr hb2 ((Below.refl _ _).alloc (Nat.le_refl _) _)
          have HS3 := Lib.hid (⟨HS1.out.1, HS1.out.2.1.below hb3, HS1.out.2.2.below hb3⟩ : SOk Γ w m ev PE _)
          have HO3 : Hid (Owp (MayT Γ) w1 _) := Lib.hid (Owp.of_below hb3)
          clear hb2 hb3 HS1
          generalize World.alloc w2 (.cells #[.int .i64 sx, .bool sy] 171) = w3 at HS3 HO3 ⊢
          have HB3 := Lib.hid (HBW.out w3 HO3.out)
          obtain ⟨x0, x1', x2, x3, xf⟩ := HB3.out.facts
          have ct := truth_any n1 w3
          rw [HTB.out] at ct
          go_cut [86] from 81 to 86 (fun v wx => v = .bool (sz || tb) ∧ SOk Γ w m ev PE wx ∧ Owp (MayT Γ) w1 wx)
          case first =>
            cases sz
            · go_wp2_with (first | (go_at_call 203; (with_reducible refine ct.mono ?_); rintro e w4 ⟨rfl, rfl⟩))
              go_meet
              case rel => exact ⟨rfl, HS3.out, HO3.out⟩
            · go_wp2_with fail
              go_meet
              case rel => exact ⟨rfl, HS3.out, HO3.out⟩
          case rest =>
            obtain ⟨rfl, hs4, ho4⟩ := hcut
            have HS4 := Lib.hid hs4
            have HO4 := Lib.hid ho4
            clear hs4 ho4 HS3 HO3 HB3 x0 x1' x2 x3 xf ct
            obtain ⟨T, hT⟩ : ∃ T, (sz || tb) = T := ⟨_, rfl⟩
            rw [hT] at HDUE ⊢
            clear hT
            have HB4 := Lib.hid (HBW.out wc HO4.out)
            obtain ⟨w4, hw4⟩ : ∃ w4, wc = w4 := ⟨_, rfl⟩
            rw [hw4] at HS4 HO4 HB4 ⊢
            clear hw4
            go_upto_if 86 with (fail)
            go_cut [] from 87 to 92 (fun wx => SOk Γ w m ev (PE ++ DU) wx ∧ Owp (MayT Γ) w4 wx)
            case first =>
              obtain ⟨x0, x1', x2, x3, xf⟩ := (HB4.out).facts
              cases T
              · have HXF : Hid (DU = []) := HDUE.out
                go_wp2_with fail
                go_meet
                case rel =>
                  rw [HXF.out, List.append_nil]
                  exact ⟨HS4.out, Owp.refl _ _⟩
              · have HXF : Hid (DU = [.bad 280 n1 p1]) := HDUE.out
                obtain ⟨-, -, -, -, c4, -, -, -⟩ := HS4.out.2.1.cells
                have hw2 := HW.out.2 k1 n1 y1 l1.length c1 p1 280 w4.drew
                have egw := HW.out.1
                go_upto_region 12 with (fail)
                go_still_tail 5, (by kernel_rfl)
                change wpList _ _ _ _ _ (World.drew w4)
                have HOa : Hid (Owp (MayT Γ) w4 w4.drew) := Lib.hid (Owp.of_below (Below.refl _ _).drew)
                have HSa : Hid (SOk Γ w m ev PE w4.drew) := Lib.hid ⟨HS4.out.1, HS4.out.2.1.same fun _ _ => rfl, HS4.out.2.2.trans HOa.out⟩
                generalize World.drew w4 = wa at *
                go_wp2_with fail
                go_at_fn Γ.wf
                refine hw2.mono ?_
                clear hw2 x0 x1' x2 x3 xf c4
                rintro e wb (⟨ha, rfl, hb⟩ | ⟨ha, hb, b, hbl, rfl, hf⟩)
                · have HOb := Lib.hid (HOa.out.below hb)
                  have HOK : Hid (SOk Γ w m ev (PE ++ DU) wb) := by
                    show SOk _ _ _ _ _ _
                    rw [HXF.out]
                    exact HSa.out.trans ⟨.inl ha, (HSa.out.2.1.below hb).badly _ _ _, Owp.of_below hb⟩
                  clear ha hb
                  go_wp2_with fail
                  go_meet
                  case rel => exact ⟨HOK.out, HOb.out⟩
                · refine ⟨rfl, .inr ?_⟩
                  rw [HTOT1.out, HXF.out]
                  exact SBad.left (SBad.right HSa.out ⟨ha, 280, n1, p1, b, rfl, hbl, rfl, hf, Owp.of_below hb⟩) _
            case rest =>
              obtain ⟨hs5, ho5⟩ := hcut
              have HS5 := Lib.hid hs5
              have HO5 := Lib.hid (HO4.out.trans ho5)
              have HB5 := Lib.hid (HBW.out wc HO5.out)
              clear hs5 ho5 HS4 HO4 HB4
              obtain ⟨x0, x1', x2, x3, xf⟩ := HB5.out.facts
              have cw := with_any (MayT Γ) ρi _ 0 n1 0 false (by decide) wc (HEN1.out.owp HO5.out) HS5.out.2.1.may
              go_wp2_with fail
              refine cw.mono ?_
              clear cw x0 x1' x2 x3 xf
              rintro e w6 ⟨u6, rfl, he6, hb6⟩
              have HE6 : Hid (EnvAt w6 (MayT Γ) (parV ρ1 (l0.take (i + 1))) u6) := by
                show EnvAt _ _ _ _
                rw [HNV.out]
                exact he6
              have HS6 : Hid (SOk Γ w m ev (DE ++ parE ρ1 (l0.take (i + 1))) w6) := by
                show SOk _ _ _ _ _ _
                rw [HEV.out, ← List.append_assoc, HPE.out]
                exact ⟨HS5.out.1, HS5.out.2.1.below hb6, HS5.out.2.2.below hb6⟩
              have HO6 := Lib.hid ((HOW1.out.trans HO5.out).below hb6)
              clear he6 hb6
              go_wp2_with fail
              go_roundg (gk - 1)
              case measure => omega
              case rel => exact ⟨i + 1, rfl, by omega, HE6.out, HS6.out, HO6.out⟩
        · have hlt' : ¬ (i : Int) < (L : Int) := by omega
          have htk : l0.take i = l0 := List.take_of_length_le (by have := HLL.out; omega)
          rw [htk] at HEN HOK
          clear htk
          have HBZ := Lib.hid (HAW.out wr (HO8.out.trans HOW.out))
          have HE9 := Lib.hid (HE3.out.owp HOW.out)
          obtain ⟨x0, x1', x2, x3, xf⟩ := HBZ.out.facts
          have HOWR := HOW
          clear HBZ HE3 HS8 HOW
          obtain ⟨k1, n1, l1, p1⟩ := x1
          obtain ⟨hok1, z0, z1, z3, y1, c1, z2, hk1⟩ := (HAT1.out.mono (fun _ h _ => h) (fun b hb hl => HOK.out.2.2.block b hl hb) : NdAt wr (fun b => ¬ MayT Γ b) (.mk k1 n1 l1 p1) B (o + 4))
          have hcat : DE ++ REST = (DE ++ parE ρ1 l0) ++ evSs l1 (none :: parV ρ1 l0) (m + 1) := by
            rw [← HREST.out]
            show DE ++ (parE ρ1 l0 ++ (evSs l1 (none :: parV ρ1 l0) (m + 1) ++ [])) = _
            rw [List.append_nil, List.append_assoc]
          have HCAT := Lib.hid hcat
          obtain ⟨PE, hPE⟩ : ∃ r, DE ++ parE ρ1 l0 = r := ⟨_, rfl⟩
          rw [hPE] at HOK HCAT
          clear hcat hPE
          have hm40 : m < 2 ^ 40 := by
            have := HWT.out
            omega
          have Qm1 : IntKind.i64.wrap ((m : Int) + 1) = (m : Int) + 1 := IntWalk.i64_in _ (by omega)
          obtain ⟨-, -, -, c3, -, -, -, cf⟩ := HOK.out.2.1.cells
          have HZ2 := Lib.hid z2
          have HK1 := Lib.hid hk1
          have HOK1 := Lib.hid hok1.ok
          clear z0 z1 z2 z3 hk1 hok1
          go_upto_region 19 with (fail)
          have HS9 := Lib.hid (⟨HOK.out.1, HOK.out.2.1.setIn (m + 1), HOK.out.2.2.trans (Owp.setIn _ _)⟩ : SOk Γ w (m + 1) ev PE (wr.setCell ⟨Γ.wb, 3, none⟩ (.int .i64 ((m : Int) + 1))))
          have HO9 : Hid (Owp (MayT Γ) wr (wr.setCell ⟨Γ.wb, 3, none⟩ (.int .i64 ((m : Int) + 1)))) := Lib.hid (Owp.setIn _ _)
          have HB9 := Lib.hid (HAW.out _ (HO8.out.trans (HOWR.out.trans HO9.out)))
          clear c3 cf x0 x1' x2 x3 xf HOK
          generalize (wr.setCell ⟨Γ.wb, 3, none⟩ (.int .i64 ((m : Int) + 1))) = w9 at HS9 HO9 HB9 ⊢
          obtain ⟨x0, x1', x2, x3, xf⟩ := HB9.out.facts
          have z2 := HO9.out.cell (p := ⟨B, o + 4 + 2, none⟩) HOK1.out HZ2.out
          have cb := HX.out w9 (m + 1) _ (parV ρ1 l0) y1 c1 _ (NdRow.mono (fun _ h _ => h) (fun b hb hl => HO9.out.block b hl hb) _ _ HK1.out) (HEN.out.owp HO9.out) HS9.out.2.1 (by
            have h1 := HWT.out
            have h2 := HWT2.out
            rw [wtN_mk k1] at h2
            show m + 1 + wtL l1 < _
            omega) (by
            have := HL.out
            rw [HCAT.out] at this
            simp only [List.length_append] at this ⊢
            show _ + (evSs l1 (none :: parV ρ1 l0) (m + 1)).length < _
            omega)
          rw [show (Nd.mk k1 n1 l1 p1).kids = l1 from rfl] at cb
          go_wp2_with fail
          refine cb.mono ?_
          clear cb x0 x1' x2 x3 xf z2
          rintro e w10 (⟨rfl, hok⟩ | hbad)
          · have HS10 := Lib.hid (SOk.trans HS9.out hok)
            have HO10 := Lib.hid (HO9.out.trans hok.2.2)
            obtain ⟨-, -, -, c3, -, -, -, cf⟩ := hok.2.1.cells
            have c3' : w10.cell? ⟨Γ.wb, 3, none⟩ = some (.int .i64 ((m : Int) + 1)) := c3
            have Qm2 : IntKind.i64.wrap ((m : Int) + 1 - 1) = (m : Int) := (IntWalk.i64_in _ (by omega)).trans (by omega)
            have Qm3 : IntKind.i64.wrap (m : Int) = (m : Int) := IntWalk.i64_in _ (by omega)
            clear hok c3 Qm1
            go_upto_region 21 with (fail)
            have HS11 := Lib.hid (⟨HS10.out.1, HS10.out.2.1.setIn m, HS10.out.2.2.trans (Owp.setIn _ _)⟩ : SOk Γ w m ev _ (w10.setCell ⟨Γ.wb, 3, none⟩ (.int .i64 (m : Int))))
            have HE11 := Lib.hid (HE9.out.owp (HO10.out.trans (Owp.setIn w10 (.int .i64 (m : Int)))))
            go_wp2_with fail
            go_ret
            refine .inl ⟨_, rfl, ?_, ?_⟩
            · show EnvAt _ _ (some (2, n, l0.length) :: ρ) _
              rw [HLL.out]
              exact HE11.out
            · rw [HCAT.out]
              exact HS11.out
          · have hb2 : SBad Γ w (DE ++ REST) e w10 := by
              rw [HCAT.out]
              exact SBad.right HS9.out hbad
            obtain ⟨ch, rfl⟩ := hbad.pan
            exact ⟨rfl, .inr hb2⟩
end Go.Proofs.YtpbkeamjdolpgaaGreatDoor
