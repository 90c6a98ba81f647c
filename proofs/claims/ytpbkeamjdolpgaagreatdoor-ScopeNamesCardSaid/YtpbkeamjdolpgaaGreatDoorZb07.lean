/- The walk of scope's statements, kind by kind. The walk of scope's for and if. The walk of scope's if. Scope's statements by their parts: definitions, calls. Scope's statements and blocks, of any size. Plain: how many events a walk finds at most. What scope does where something is wrong. The walk of scope.Check. The walks of scope.Free and scope.Calls. What the Scope rows' statements ask: Told. Plain: TreeBack's law. The walk of TreeBack. Plain: what a text is parsed to is right, and not heavy. The walk of TreeAgain. A slice of nodes that came in: the tree that it is. What the Scope rows' statements ask: same, wakes. What the Scope rows' statements ask: wakes. Plain: what a walk finds hangs on the tree but for places; what codes there are. What the Scope rows' statements ask: code. The walk of ScopePrints. ScopeNames, the plain law: names that are all turned into others, one to one, change nothing. ScopeNames, the plain law: a tree whose names are turned is right where the tree was; statements that define, alone. ScopeNames: the program's built and turned. ScopeNames: the walk of the statement. -/
import Derived.Test.YtpbkeamjdolpgaaGreatDoorZb06
import Derived.Deep.RegionHeld2
import Derived.Test.YtpbkeamjdolpgaaGreatDoorZb01
import Derived.Test.YtpbkeamjdolpgaaGreatDoorZb05
import Derived.Deep.RegionWith
import Derived.Deep.RegionHeld3
import Derived.Test.YtpbkeamjdolpgaaGreatDoorZb02
import Derived.StillTailTactics
import Derived.Laws.EntriesVeiled
import Derived.BigQuiet
import Derived.Deep.QuietTactic
import Derived.Lib.QuietBelow
import Derived.Deep.Slices
import Derived.Deep.Strs
import Derived.Lib.SmallJoins
import Derived.SizedLaws
namespace Go.Proofs.YtpbkeamjdolpgaaGreatDoor
open Go.RowKit Go.Lib
open Go.Maps (Keyed)

set_option maxHeartbeats 4000000 in
set_option maxRecDepth 100000 in
theorem stmt2_step (Γ : SCtx) (n : List UInt8) (kids : List Nd) (p : Int) (hb : BodyOk Γ 2 (fun ρ m => evS (.mk 2 n kids p) ρ m) 2 n kids p) : StmtOk Γ (.mk 2 n kids p) := by
  intro w m ev ρ v u hv hu h hwt hl
  obtain ⟨y, c, rfl, hrow⟩ := hv
  have hA : Below w.heap.size w (w.alloc (.cells #[.int .i64 2, .string ⟨n.toArray⟩, .slice y kids.length c, .int .i64 p] 53)) := (Below.refl _ _).alloc (Nat.le_refl _) _
  have HB := Lib.hid (Box4.new w (.int .i64 2) (.string ⟨n.toArray⟩) (.slice y kids.length c) (.int .i64 p))
  have cb := hb _ m ev ρ (.agg #[.int .i64 2, .string ⟨n.toArray⟩, .slice y kids.length c, .int .i64 p]) u ⟨y, c, rfl, hrow.below hA⟩ (hu.below hA) (h.below hA) hwt hl
  have H0 := Lib.hid (SOk.start h hA)
  have HEE : Hid (envS ρ (.mk 2 n kids p) = some (2, n, argc kids) :: ρ) := Lib.hid (by simp [envS])
  clear hb hrow hu h hwt hl hA
  go_enter Tryz.func176, Tryz.ntmps176
  go_upto_region 1 with (fail)
  obtain ⟨a, ha⟩ : ∃ a, w.heap.size = a := ⟨_, rfl⟩
  rw [ha] at HB ⊢
  have HAA := Lib.hid ha
  clear ha
  generalize World.alloc w (.cells #[.int .i64 2, .string ⟨n.toArray⟩, .slice y kids.length c, .int .i64 p] 53) = W at H0 HB cb ⊢
  obtain ⟨x0, x1', x2, x3, xf⟩ := HB.out.facts
  go_wp2_with fail
  refine cb.mono ?_
  clear cb x0 x1' x2 x3 xf
  rintro e w2 (⟨v2, rfl, he, hok⟩ | hbad)
  · have HOK : Hid (SOk Γ w m ev (evS (.mk 2 n kids p) ρ m) w2) := Lib.hid (SOk.trans (e1 := []) H0.out (by rw [List.append_nil]; exact hok))
    have HE := Lib.hid he
    clear hok he
    go_wp2_with fail
    go_ret
    refine .inl ⟨_, rfl, ?_, HOK.out⟩
    rw [HEE.out]
    exact HE.out
  · have hb2 : SBad Γ w (evS (.mk 2 n kids p) ρ m) e w2 := SBad.right (e1 := []) H0.out hbad
    obtain ⟨ch, rfl⟩ := hbad.pan
    exact ⟨rfl, .inr hb2⟩
set_option maxHeartbeats 4000000 in
set_option maxRecDepth 100000 in
theorem stmt3_step (Γ : SCtx) (n : List UInt8) (kids : List Nd) (p : Int) (hb : BodyOk Γ 1 (fun ρ m => evS (.mk 3 n kids p) ρ m) 3 n kids p) : StmtOk Γ (.mk 3 n kids p) := by
  intro w m ev ρ v u hv hu h hwt hl
  obtain ⟨y, c, rfl, hrow⟩ := hv
  have hA : Below w.heap.size w (w.alloc (.cells #[.int .i64 3, .string ⟨n.toArray⟩, .slice y kids.length c, .int .i64 p] 53)) := (Below.refl _ _).alloc (Nat.le_refl _) _
  have HB := Lib.hid (Box4.new w (.int .i64 3) (.string ⟨n.toArray⟩) (.slice y kids.length c) (.int .i64 p))
  have cb := hb _ m ev ρ (.agg #[.int .i64 3, .string ⟨n.toArray⟩, .slice y kids.length c, .int .i64 p]) u ⟨y, c, rfl, hrow.below hA⟩ (hu.below hA) (h.below hA) hwt hl
  have H0 := Lib.hid (SOk.start h hA)
  have HEE : Hid (envS ρ (.mk 3 n kids p) = some (1, n, argc kids) :: ρ) := Lib.hid (by simp [envS])
  clear hb hrow hu h hwt hl hA
  go_enter Tryz.func176, Tryz.ntmps176
  go_upto_region 1 with (fail)
  obtain ⟨a, ha⟩ : ∃ a, w.heap.size = a := ⟨_, rfl⟩
  rw [ha] at HB ⊢
  have HAA := Lib.hid ha
  clear ha
  generalize World.alloc w (.cells #[.int .i64 3, .string ⟨n.toArray⟩, .slice y kids.length c, .int .i64 p] 53) = W at H0 HB cb ⊢
  obtain ⟨x0, x1', x2, x3, xf⟩ := HB.out.facts
  go_wp2_with fail
  refine cb.mono ?_
  clear cb x0 x1' x2 x3 xf
  rintro e w2 (⟨v2, rfl, he, hok⟩ | hbad)
  · have HOK : Hid (SOk Γ w m ev (evS (.mk 3 n kids p) ρ m) w2) := Lib.hid (SOk.trans (e1 := []) H0.out (by rw [List.append_nil]; exact hok))
    have HE := Lib.hid he
    clear hok he
    go_wp2_with fail
    go_ret
    refine .inl ⟨_, rfl, ?_, HOK.out⟩
    rw [HEE.out]
    exact HE.out
  · have hb2 : SBad Γ w (evS (.mk 3 n kids p) ρ m) e w2 := SBad.right (e1 := []) H0.out hbad
    obtain ⟨ch, rfl⟩ := hbad.pan
    exact ⟨rfl, .inr hb2⟩
set_option maxHeartbeats 4000000 in
set_option maxRecDepth 100000 in
theorem stmt7_step (Γ : SCtx) (n : List UInt8) (kids : List Nd) (p : Int) (hb : CallOk Γ 7 n kids p) : StmtOk Γ (.mk 7 n kids p) := by
  intro w m ev ρ v u hv hu h hwt hl
  obtain ⟨y, c, rfl, hrow⟩ := hv
  have hA : Below w.heap.size w (w.alloc (.cells #[.int .i64 7, .string ⟨n.toArray⟩, .slice y kids.length c, .int .i64 p] 53)) := (Below.refl _ _).alloc (Nat.le_refl _) _
  have HB := Lib.hid (Box4.new w (.int .i64 7) (.string ⟨n.toArray⟩) (.slice y kids.length c) (.int .i64 p))
  have hEV : evS (.mk 7 n kids p) ρ m = callE ρ m n kids p ++ (evEs ρ (bodyOf kids) ++ evT kids ρ m) := by
    rw [evS, if_neg (by decide), if_neg (by decide), if_neg (by decide), if_neg (by decide), if_neg (by decide), List.append_assoc]
  have hEE : envS ρ (.mk 7 n kids p) = ρ := by simp [envS]
  rw [hEV] at hl ⊢
  rw [hEE]
  have cb := hb _ m ev ρ (.agg #[.int .i64 7, .string ⟨n.toArray⟩, .slice y kids.length c, .int .i64 p]) u ⟨y, c, rfl, hrow.below hA⟩ (hu.below hA) (h.below hA) (by rw [wtN_mk] at hwt; omega) hl
  have H0 := Lib.hid (SOk.start h hA)
  have HU := Lib.hid (hu.below hA)
  clear hb hrow hu h hwt hl hA hEV hEE
  go_enter Tryz.func176, Tryz.ntmps176
  go_upto_region 1 with (fail)
  obtain ⟨a, ha⟩ : ∃ a, w.heap.size = a := ⟨_, rfl⟩
  rw [ha] at HB ⊢
  have HAA := Lib.hid ha
  clear ha
  generalize World.alloc w (.cells #[.int .i64 7, .string ⟨n.toArray⟩, .slice y kids.length c, .int .i64 p] 53) = W at H0 HB cb HU ⊢
  obtain ⟨x0, x1', x2, x3, xf⟩ := HB.out.facts
  go_wp2_with fail
  refine cb.mono ?_
  clear cb x0 x1' x2 x3 xf
  rintro e w2 (⟨rfl, hok⟩ | hbad)
  · have HOK : Hid (SOk Γ w m ev (callE ρ m n kids p ++ (evEs ρ (bodyOf kids) ++ evT kids ρ m)) w2) := Lib.hid (SOk.trans (e1 := []) H0.out (by rw [List.append_nil]; exact hok))
    have HE := Lib.hid (HU.out.owp hok.2.2)
    clear hok
    go_wp2_with fail
    go_ret
    exact .inl ⟨_, rfl, HE.out, HOK.out⟩
  · have hb2 : SBad Γ w (callE ρ m n kids p ++ (evEs ρ (bodyOf kids) ++ evT kids ρ m)) e w2 := SBad.right (e1 := []) H0.out hbad
    obtain ⟨ch, rfl⟩ := hbad.pan
    exact ⟨rfl, .inr hb2⟩
set_option maxHeartbeats 4000000 in
set_option maxRecDepth 100000 in
theorem stmt1_step (Γ : SCtx) (hw : WrongOk Γ) (n : List UInt8) (x : Nd) (p : Int) (hX : ExprOk Γ x) : StmtOk Γ (.mk 1 n [x] p) := by
  intro w m ev ρ v u hv hu h hwt hl
  obtain ⟨y, c, rfl, hrow⟩ := hv
  obtain ⟨B, o, rfl, hat, -⟩ := hrow
  have hEV : evS (.mk 1 n [x] p) ρ m = dupE ρ n p ++ evE ρ x := by
    rw [evS, if_pos rfl]
    show _ ++ (evE ρ x ++ []) = _
    rw [List.append_nil]
  have hEE : envS ρ (.mk 1 n [x] p) = some (0, n, 0) :: ρ := by simp [envS]
  rw [hEV] at hl ⊢
  rw [hEE]
  have hA : Below w.heap.size w (w.alloc (.cells #[.int .i64 1, .string ⟨n.toArray⟩, .slice (some ⟨B, o, none⟩) 1 c, .int .i64 p] 53)) := (Below.refl _ _).alloc (Nat.le_refl _) _
  obtain ⟨F, cap, rfl, eg, -⟩ := env_any _ ρ u w hu
  have HB := Lib.hid (Box4.new w (.int .i64 1) (.string ⟨n.toArray⟩) (.slice (some ⟨B, o, none⟩) 1 c) (.int .i64 p))
  have H0 := Lib.hid (SOk.start h hA)
  have HENV := Lib.hid hu
  have HAT := Lib.hid hat
  have HW := Lib.hid hw
  have HX := Lib.hid hX
  have HL := Lib.hid hl
  have HA := Lib.hid hA
  have HMAY := Lib.hid h.may
  obtain ⟨F', cap', hf, -, hc⟩ := env_any _ ρ _ _ (hu.below hA)
  cases hf
  have c0 := hc 0 n true
  unfold TkEnd at c0
  obtain ⟨tx, htx⟩ : ∃ x, tkA ρ 0 n true = x := ⟨_, rfl⟩
  obtain ⟨ty, hty⟩ : ∃ x, tkB ρ 0 n true = x := ⟨_, rfl⟩
  obtain ⟨tz, htz⟩ : ∃ x, (findE ρ 0 n true).isSome = x := ⟨_, rfl⟩
  rw [htx, hty, htz] at c0
  obtain ⟨tb, htb⟩ : ∃ x, truthB n = x := ⟨_, rfl⟩
  obtain ⟨DU, hDU⟩ : ∃ r, dupE ρ n p = r := ⟨_, rfl⟩
  have HDU : Hid (DU = if tz || tb then [.bad 280 n p] else []) := Lib.hid (by
    rw [← hDU, ← htz, ← htb]
    rfl)
  have HTB := Lib.hid htb
  rw [hDU] at HL ⊢
  obtain ⟨P0, hP0⟩ : ∃ P : List Ev, [] = P := ⟨_, rfl⟩
  rw [hP0] at H0
  have HP0 := Lib.hid hP0
  have HTOT : Hid (DU ++ evE ρ x = (P0 ++ DU) ++ evE ρ x) := Lib.hid (by rw [← hP0]; rfl)
  clear hA hat hu hw hX hl hwt h hc htx hty htz htb hDU hP0 hEV hEE
  go_enter Tryz.func176, Tryz.ntmps176
  go_upto_region 1 with (fail)
  obtain ⟨a, ha⟩ : ∃ a, w.heap.size = a := ⟨_, rfl⟩
  rw [ha] at HB ⊢
  have HAA := Lib.hid ha
  clear ha
  generalize World.alloc w (.cells #[.int .i64 1, .string ⟨n.toArray⟩, .slice (some ⟨B, o, none⟩) 1 c, .int .i64 p] 53) = W at HA H0 HB c0 ⊢
  have haw : ∀ w1, Owp (MayT Γ) W w1 → Box4 w1 a (.int .i64 1) (.string ⟨n.toArray⟩) (.slice (some ⟨B, o, none⟩) 1 c) (.int .i64 p) := fun w1 ho => (ho.block a HB.out.lt (fun hm => by have := HMAY.out a hm; have := HAA.out; omega)).trans HB.out
  have HAW := Lib.hid haw
  clear haw
  obtain ⟨x0, x1', x2, x3, xf⟩ := HB.out.facts
  go_wp2_with fail
  go_at_fn F
  refine c0.mono ?_
  clear c0 x0 x1' x2 x3 xf
  rintro e w1 ⟨rfl, hb1⟩
  go_upto_region 5 with (fail)
  have hb2 : Below W.heap.size W (w1.alloc (.cells #[.int .i64 tx, .bool ty] 171)) := tr hb1 ((Below.refl _ _).alloc (Nat.le_refl _) _)
  have HS3 := Lib.hid (⟨H0.out.1, H0.out.2.1.below hb2, H0.out.2.2.below hb2⟩ : SOk Γ w m ev P0 _)
  have HO3 : Hid (Owp (MayT Γ) W _) := Lib.hid (Owp.of_below hb2)
  clear hb1 hb2
  generalize World.alloc w1 (.cells #[.int .i64 tx, .bool ty] 171) = w3 at HS3 HO3 ⊢
  have HB3 := Lib.hid (HAW.out w3 HO3.out)
  obtain ⟨x0, x1', x2, x3, xf⟩ := HB3.out.facts
  have ct := truth_any n w3
  rw [HTB.out] at ct
  go_cut [31] from 26 to 31 (fun v wx => v = .bool (tz || tb) ∧ SOk Γ w m ev P0 wx ∧ Owp (MayT Γ) W wx)
  case first =>
    cases tz
    · go_wp2_with (first | (go_at_call 203; (with_reducible refine ct.mono ?_); rintro e w4 ⟨rfl, rfl⟩))
      go_meet
      case rel => exact ⟨rfl, HS3.out, HO3.out⟩
    · go_wp2_with fail
      go_meet
      case rel => exact ⟨rfl, HS3.out, HO3.out⟩
  case rest =>
    obtain ⟨rfl, hs4, ho4⟩ := hcut
    have HS4 := Lib.hid hs4
    have HO4 := Lib.hid ho4
    clear hs4 ho4 HS3 HO3 HB3 x0 x1' x2 x3 xf ct
    obtain ⟨T, hT⟩ : ∃ T, (tz || tb) = T := ⟨_, rfl⟩
    rw [hT] at HDU ⊢
    clear hT
    have HB4 := Lib.hid (HAW.out wc HO4.out)
    obtain ⟨w4, hw4⟩ : ∃ w4, wc = w4 := ⟨_, rfl⟩
    rw [hw4] at HS4 HO4 HB4 ⊢
    clear hw4
    go_upto_if 31 with (fail)
    go_cut [] from 32 to 37 (fun wx => SOk Γ w m ev (P0 ++ DU) wx ∧ Owp (MayT Γ) w4 wx)
    case first =>
      obtain ⟨x0, x1', x2, x3, xf⟩ := (HB4.out).facts
      cases T
      · have HXF : Hid (DU = []) := HDU.out
        go_wp2_with fail
        go_meet
        case rel =>
          rw [HXF.out, List.append_nil]
          exact ⟨HS4.out, Owp.refl _ _⟩
      · have HXF : Hid (DU = [.bad 280 n p]) := HDU.out
        obtain ⟨-, -, -, -, c4, -, -, -⟩ := HS4.out.2.1.cells
        have hw2 := HW.out.2 1 n (some ⟨B, o, none⟩) 1 c p 280 w4.drew
        have egw := HW.out.1
        go_upto_region 6 with (fail)
        go_still_tail 5, (by kernel_rfl)
        change wpList _ _ _ _ _ (World.drew w4)
        have HOa : Hid (Owp (MayT Γ) w4 w4.drew) := Lib.hid (Owp.of_below (Below.refl _ _).drew)
        have HSa : Hid (SOk Γ w m ev P0 w4.drew) := Lib.hid ⟨HS4.out.1, HS4.out.2.1.same fun _ _ => rfl, HS4.out.2.2.trans HOa.out⟩
        generalize World.drew w4 = wa at *
        go_wp2_with fail
        go_at_fn Γ.wf
        refine hw2.mono ?_
        clear hw2 x0 x1' x2 x3 xf c4
        rintro e wb (⟨ha, rfl, hb⟩ | ⟨ha, hb, b, hbl, rfl, hf⟩)
        · have HOb := Lib.hid (HOa.out.below hb)
          have HOK : Hid (SOk Γ w m ev (P0 ++ DU) wb) := by
            show SOk _ _ _ _ _ _
            rw [HXF.out]
            exact HSa.out.trans ⟨.inl ha, (HSa.out.2.1.below hb).badly _ _ _, Owp.of_below hb⟩
          clear ha hb
          go_wp2_with fail
          go_meet
          case rel => exact ⟨HOK.out, HOb.out⟩
        · refine ⟨rfl, .inr ?_⟩
          rw [HTOT.out, HXF.out]
          exact SBad.left (SBad.right HSa.out ⟨ha, 280, n, p, b, rfl, hbl, rfl, hf, Owp.of_below hb⟩) _
    case rest =>
      obtain ⟨hs5, ho5⟩ := hcut
      have HS5 : Hid (SOk Γ w m ev DU wc) := Lib.hid (by rw [← HP0.out] at hs5; exact hs5)
      have HO5 := Lib.hid (HO4.out.trans ho5)
      clear hs5 ho5 HS4 HB4 HTOT HO4
      have HB5 := Lib.hid (HAW.out wc HO5.out)
      obtain ⟨x0, x1', x2, x3, xf⟩ := HB5.out.facts
      obtain ⟨k1, n1, l1, p1⟩ := x
      obtain ⟨hok1, z0, z1, z3, y1, c1, z2, hk1⟩ := (HAT.out.mono (fun _ h _ => h) (fun b hb hl => HS5.out.2.2.block b hl hb) : NdAt wc (fun b => ¬ MayT Γ b) (.mk k1 n1 l1 p1) B o)
      have cx := HX.out wc m _ ρ (.agg #[.int .i64 k1, .string ⟨n1.toArray⟩, .slice y1 l1.length c1, .int .i64 p1]) _ ⟨y1, c1, rfl, hk1⟩ (HENV.out.owp HS5.out.2.2) HS5.out.2.1 (by
        have := HL.out
        simp only [List.length_append] at this ⊢
        omega)
      clear hok1 hk1
      go_wp2_with fail
      refine cx.mono ?_
      clear cx x0 x1' x2 x3 xf z0 z1 z2 z3
      rintro e w6 (⟨rfl, hok⟩ | hbad)
      · have HOK := Lib.hid (SOk.trans HS5.out hok)
        have HO6 := Lib.hid (HO5.out.trans hok.2.2)
        clear hok
        have HB6 := Lib.hid (HAW.out w6 HO6.out)
        obtain ⟨x0, x1', x2, x3, xf⟩ := HB6.out.facts
        have cw := with_any (MayT Γ) ρ _ 0 n 0 false (by decide) w6 (HENV.out.owp HOK.out.2.2) HOK.out.2.1.may
        go_wp2_with fail
        refine cw.mono ?_
        clear cw x0 x1' x2 x3 xf
        rintro e w7 ⟨u7, rfl, he7, hb7⟩
        have HE7 := Lib.hid he7
        have HS7 := Lib.hid (⟨HOK.out.1, HOK.out.2.1.below hb7, HOK.out.2.2.below hb7⟩ : SOk Γ w m ev _ w7)
        clear he7 hb7
        go_wp2_with fail
        go_ret
        exact .inl ⟨_, rfl, HE7.out, HS7.out⟩
      · have hb2 : SBad Γ w (DU ++ evE ρ (.mk k1 n1 l1 p1)) e w6 := SBad.right HS5.out hbad
        obtain ⟨ch, rfl⟩ := hbad.pan
        exact ⟨rfl, .inr hb2⟩
end Go.Proofs.YtpbkeamjdolpgaaGreatDoor
namespace Go.Proofs.YtpbkeamjdolpgaaGreatDoor
open Go.RowKit Go.Lib
open Go.Maps (Keyed)

theorem evBs_app : ∀ (a b : List Nd) (ρ : Env) (m : Nat), evBs (a ++ b) ρ m = evBs a ρ m ++ evBs b ρ m
  | [], _, _, _ => rfl
  | x :: r, b, ρ, m => by
    rw [List.cons_append, evBs, evBs, evBs_app r b, List.append_assoc]
set_option maxHeartbeats 4000000 in
set_option maxRecDepth 100000 in
theorem stmt5_step (Γ : SCtx) (hw : WrongOk Γ) (n : List UInt8) (x b : Nd) (p : Int) (hX : ExprOk Γ x) (hB : BlockOk Γ b.kids) : StmtOk Γ (.mk 5 n [x, b] p) := by
  intro w m ev ρ v u hv hu h hwt hl
  obtain ⟨y, c, rfl, hrow⟩ := hv
  obtain ⟨B, o, rfl, hat, hrow1⟩ := hrow
  obtain ⟨B', o', hBo, hat1, -⟩ := hrow1
  cases hBo
  obtain ⟨kb, nb, lb, pb⟩ := b
  have hEV : evS (.mk 5 n [x, .mk kb nb lb pb] p) ρ m = (if truthB n then [.bad 280 n p] else []) ++ (evE ρ x ++ evSs lb (none :: some (0, n, 0) :: ρ) m) := by
    rw [evS, if_neg (by decide), if_neg (by decide), if_neg (by decide), if_pos rfl]
    show (_ ++ (evE ρ x ++ [])) ++ (evSs lb (none :: some (0, n, 0) :: ρ) m ++ []) = _
    rw [List.append_nil, List.append_nil, List.append_assoc]
  have hEE : envS ρ (.mk 5 n [x, .mk kb nb lb pb] p) = ρ := by simp [envS]
  rw [hEV] at hl ⊢
  rw [hEE]
  have hA : Below w.heap.size w (w.alloc (.cells #[.int .i64 5, .string ⟨n.toArray⟩, .slice (some ⟨B, o, none⟩) 2 c, .int .i64 p] 53)) := (Below.refl _ _).alloc (Nat.le_refl _) _
  have HB := Lib.hid (Box4.new w (.int .i64 5) (.string ⟨n.toArray⟩) (.slice (some ⟨B, o, none⟩) 2 c) (.int .i64 p))
  have H0 := Lib.hid (SOk.start h hA)
  have HENV := Lib.hid hu
  have HAT := Lib.hid hat
  have HAT1 := Lib.hid hat1
  have HW := Lib.hid hw
  have HX := Lib.hid hX
  have HBK := Lib.hid hB
  have HA := Lib.hid hA
  have HMAY := Lib.hid h.may
  have HWL : Hid (m + wtL lb < 2 ^ 40) := Lib.hid (by
    rw [wtN_mk] at hwt
    have h2 : wtL [x, .mk kb nb lb pb] = wtN x + (wtN (.mk kb nb lb pb) + 0) := rfl
    rw [wtN_mk kb] at h2
    omega)
  obtain ⟨tb, htb⟩ : ∃ x, truthB n = x := ⟨_, rfl⟩
  rw [htb] at hl ⊢
  obtain ⟨EB, hEB⟩ : ∃ r, evSs lb (none :: some (0, n, 0) :: ρ) m = r := ⟨_, rfl⟩
  have HEB := Lib.hid hEB
  rw [hEB] at hl ⊢
  obtain ⟨DU, hDU⟩ : ∃ r, (if tb = true then [Ev.bad 280 n p] else []) = r := ⟨_, rfl⟩
  have HDU : Hid (DU = if tb then [.bad 280 n p] else []) := Lib.hid hDU.symm
  have HTB := Lib.hid htb
  rw [hDU] at hl ⊢
  have HL := Lib.hid hl
  obtain ⟨P0, hP0⟩ : ∃ P : List Ev, [] = P := ⟨_, rfl⟩
  rw [hP0] at H0
  have HP0 := Lib.hid hP0
  have HTOT : Hid (DU ++ (evE ρ x ++ EB) = (P0 ++ DU) ++ (evE ρ x ++ EB)) := Lib.hid (by rw [← hP0]; rfl)
  obtain ⟨F, cap, rfl, eg, -⟩ := env_any _ ρ u w hu
  clear hA hat hat1 hu hw hX hB hl hwt h htb hDU hP0 hEV hEE hEB
  go_enter Tryz.func176, Tryz.ntmps176
  go_upto_region 1 with (fail)
  obtain ⟨a, ha⟩ : ∃ a, w.heap.size = a := ⟨_, rfl⟩
  rw [ha] at HB ⊢
  have HAA := Lib.hid ha
  clear ha
  generalize World.alloc w (.cells #[.int .i64 5, .string ⟨n.toArray⟩, .slice (some ⟨B, o, none⟩) 2 c, .int .i64 p] 53) = W at HA H0 HB ⊢
  have haw : ∀ w1, Owp (MayT Γ) W w1 → Box4 w1 a (.int .i64 5) (.string ⟨n.toArray⟩) (.slice (some ⟨B, o, none⟩) 2 c) (.int .i64 p) := fun w1 ho => (ho.block a HB.out.lt (fun hm => by have := HMAY.out a hm; have := HAA.out; omega)).trans HB.out
  have HAW := Lib.hid haw
  clear haw
  obtain ⟨x0, x1', x2, x3, xf⟩ := HB.out.facts
  have ct := truth_any n W
  rw [HTB.out] at ct
  go_upto_if 66 with (first | (go_at_call 203; (with_reducible refine ct.mono ?_); rintro e w4 ⟨rfl, rfl⟩))
  clear x0 x1' x2 x3 xf ct
  go_cut [] from 67 to 72 (fun wx => SOk Γ w m ev (P0 ++ DU) wx ∧ Owp (MayT Γ) W wx)
  case first =>
    obtain ⟨x0, x1', x2, x3, xf⟩ := (HB.out).facts
    cases tb
    · have HXF : Hid (DU = []) := HDU.out
      go_wp2_with fail
      go_meet
      case rel =>
        rw [HXF.out, List.append_nil]
        exact ⟨H0.out, Owp.refl _ _⟩
    · have HXF : Hid (DU = [.bad 280 n p]) := HDU.out
      obtain ⟨-, -, -, -, c4, -, -, -⟩ := H0.out.2.1.cells
      have hw2 := HW.out.2 5 n (some ⟨B, o, none⟩) 2 c p 280 W.drew
      have egw := HW.out.1
      go_upto_region 15 with (fail)
      go_still_tail 5, (by kernel_rfl)
      change wpList _ _ _ _ _ (World.drew W)
      have HOa : Hid (Owp (MayT Γ) W W.drew) := Lib.hid (Owp.of_below (Below.refl _ _).drew)
      have HSa : Hid (SOk Γ w m ev P0 W.drew) := Lib.hid ⟨H0.out.1, H0.out.2.1.same fun _ _ => rfl, H0.out.2.2.trans HOa.out⟩
      generalize World.drew W = wa at *
      go_wp2_with fail
      go_at_fn Γ.wf
      refine hw2.mono ?_
      clear hw2 x0 x1' x2 x3 xf c4
      rintro e wb (⟨ha, rfl, hb⟩ | ⟨ha, hb, b, hbl, rfl, hf⟩)
      · have HOb := Lib.hid (HOa.out.below hb)
        have HOK : Hid (SOk Γ w m ev (P0 ++ DU) wb) := by
          show SOk _ _ _ _ _ _
          rw [HXF.out]
          exact HSa.out.trans ⟨.inl ha, (HSa.out.2.1.below hb).badly _ _ _, Owp.of_below hb⟩
        clear ha hb
        go_wp2_with fail
        go_meet
        case rel => exact ⟨HOK.out, HOb.out⟩
      · refine ⟨rfl, .inr ?_⟩
        rw [HTOT.out, HXF.out]
        exact SBad.left (SBad.right HSa.out ⟨ha, 280, n, p, b, rfl, hbl, rfl, hf, Owp.of_below hb⟩) _
  case rest =>
    obtain ⟨hs5, ho5⟩ := hcut
    have HS5 : Hid (SOk Γ w m ev DU wc) := Lib.hid (by rw [← HP0.out] at hs5; exact hs5)
    have HO5 := Lib.hid ho5
    clear hs5 ho5 H0 HB HTOT
    have HB5 := Lib.hid (HAW.out wc HO5.out)
    obtain ⟨x0, x1', x2, x3, xf⟩ := HB5.out.facts
    obtain ⟨k1, n1, l1, p1⟩ := x
    obtain ⟨hok1, z0, z1, z3, y1, c1, z2, hk1⟩ := (HAT.out.mono (fun _ h _ => h) (fun b hb hl => HS5.out.2.2.block b hl hb) : NdAt wc (fun b => ¬ MayT Γ b) (.mk k1 n1 l1 p1) B o)
    have cx := HX.out wc m _ ρ (.agg #[.int .i64 k1, .string ⟨n1.toArray⟩, .slice y1 l1.length c1, .int .i64 p1]) _ ⟨y1, c1, rfl, hk1⟩ (HENV.out.owp HS5.out.2.2) HS5.out.2.1 (by
      have := HL.out
      simp only [List.length_append] at this ⊢
      omega)
    clear hok1 hk1
    go_wp2_with fail
    refine cx.mono ?_
    clear cx x0 x1' x2 x3 xf z0 z1 z2 z3
    rintro e w6 (⟨rfl, hok⟩ | hbad)
    · have HOK := Lib.hid (SOk.trans HS5.out hok)
      have HO6 := Lib.hid (HO5.out.trans hok.2.2)
      clear hok
      have HB6 := Lib.hid (HAW.out w6 HO6.out)
      obtain ⟨x0, x1', x2, x3, xf⟩ := HB6.out.facts
      obtain ⟨hokb, -, -, -, yb, cb', zb2, hkb⟩ := (HAT1.out.mono (fun _ h _ => h) (fun b hb hl => HOK.out.2.2.block b hl hb) : NdAt w6 (fun b => ¬ MayT Γ b) (.mk kb nb lb pb) B (o + 4))
      have hd : Below w6.heap.size w6 w6.drew := (Below.refl _ _).drew
      have HS6 := Lib.hid (⟨HOK.out.1, HOK.out.2.1.below hd, HOK.out.2.2.below hd⟩ : SOk Γ w m ev _ w6.drew)
      have HKB := Lib.hid (hkb.below hd)
      have HOKB := Lib.hid hokb.ok
      have cw := with_any (MayT Γ) ρ _ 0 n 0 false (by decide) w6.drew (HENV.out.owp HS6.out.2.2) HS6.out.2.1.may
      have cb : ∀ w8 u8, EnvAt w8 (MayT Γ) (some (0, n, 0) :: ρ) u8 → Below w6.drew.heap.size w6.drew w8 → Calls Tryz.prog 134 #[.pointer (some ⟨Γ.wb, 0, none⟩), .slice yb lb.length cb', u8] w8 (SEnd Γ w8 m (ev ++ (DU ++ evE ρ (.mk k1 n1 l1 p1))) EB) := by
        intro w8 u8 he8 hb8
        have h1 := HBK.out w8 m _ (some (0, n, 0) :: ρ) yb cb' u8 (HKB.out.below hb8) he8 (HS6.out.2.1.below hb8) HWL.out (by
          have := HL.out
          show _ + (evSs lb (none :: some (0, n, 0) :: ρ) m).length < _
          rw [HEB.out]
          simp only [List.length_append] at this ⊢
          omega)
        rw [show (Nd.mk kb nb lb pb).kids = lb from rfl, HEB.out] at h1
        exact h1
      have d1 : w6.drew.cell? ⟨a, 1, none⟩ = some (.string ⟨n.toArray⟩) := x1'
      have d2 : w6.drew.cell? ⟨a, 2, none⟩ = some (.slice (some ⟨B, o, none⟩) 2 c) := x2
      have d3 : w6.drew.cell? ⟨B, o + 4 + 2, none⟩ = some (.slice yb lb.length cb') := zb2
      have HD : Hid (∀ w9, Owp (MayT Γ) w6.drew w9 → w9.cell? ⟨a, 1, none⟩ = some (.string ⟨n.toArray⟩) ∧ w9.cell? ⟨a, 2, none⟩ = some (.slice (some ⟨B, o, none⟩) 2 c) ∧ w9.cell? ⟨B, o + 4 + 2, none⟩ = some (.slice yb lb.length cb')) := Lib.hid fun w9 ho => by
        have hna : ¬ MayT Γ a := fun hm => by have := HMAY.out a hm; have := HAA.out; omega
        exact ⟨ho.cell (p := ⟨a, 1, none⟩) hna d1, ho.cell (p := ⟨a, 2, none⟩) hna d2, ho.cell (p := ⟨B, o + 4 + 2, none⟩) HOKB.out d3⟩
      have HS8 : Hid (∀ w8, Below w6.drew.heap.size w6.drew w8 → SOk Γ w m ev (DU ++ evE ρ (.mk k1 n1 l1 p1)) w8) := Lib.hid fun w8 hb => ⟨HS6.out.1, HS6.out.2.1.below hb, HS6.out.2.2.below hb⟩
      clear hokb hkb hd
      go_upto_region 17 with (fail)
      go_region_held2 (fun w' => w'.cell? ⟨a, 1, none⟩ = some (.string ⟨n.toArray⟩) ∧ w'.cell? ⟨a, 2, none⟩ = some (.slice (some ⟨B, o, none⟩) 2 c) ∧ w'.cell? ⟨B, o + 4 + 2, none⟩ = some (.slice yb lb.length cb')) (first | with_reducible exact ⟨x1', x2, zb2⟩ | with_reducible exact ⟨d1, d2, d3⟩ | with_reducible assumption) (first | (go_at_call 205; (refine cw.mono ?_); rintro e w8 ⟨u8, rfl, he8, hb8⟩; have hS8 := HD.out w8 (Owp.of_below hb8)) | (go_at_call 134; (refine (cb _ _ he8 hb8).mono ?_); rintro e w9 (⟨rfl, hok⟩ | hbad); rotate_left; (obtain ⟨ch, rfl⟩ := hbad.pan; refine ⟨rfl, .inr ?_⟩; rw [← List.append_assoc]; exact SBad.right (HS8.out _ hb8) hbad); have hS9 := HD.out w9 ((Owp.of_below hb8).trans hok.2.2)))
      have HS9 := Lib.hid (SOk.trans (HS8.out _ hb8) hok)
      have HE9 := Lib.hid (HENV.out.owp HS9.out.2.2)
      clear hS8 hS9 hok he8 hb8 d1 d2 d3 x0 x1' x2 x3 xf zb2
      go_wp2_with fail
      go_ret
      refine .inl ⟨_, rfl, HE9.out, ?_⟩
      rw [← List.append_assoc]
      exact HS9.out
    · have hb2 : SBad Γ w (DU ++ (evE ρ (.mk k1 n1 l1 p1) ++ EB)) e w6 := SBad.right HS5.out (SBad.left hbad _)
      obtain ⟨ch, rfl⟩ := hbad.pan
      exact ⟨rfl, .inr hb2⟩
end Go.Proofs.YtpbkeamjdolpgaaGreatDoor
namespace Go.Proofs.YtpbkeamjdolpgaaGreatDoor
open Go.RowKit Go.Lib
open Go.Maps (Keyed)

set_option maxHeartbeats 4000000 in
set_option maxRecDepth 100000 in
theorem stmt6_step (Γ : SCtx) (n : List UInt8) (x : Nd) (r : List Nd) (p : Int) (hX : ExprOk Γ x) (hB : ∀ b ∈ r, BlockOk Γ b.kids) (hr1 : 0 < r.length) : ∀ (w : World) (m : Nat) (ev : List Ev) (ρ : Env) (y : Option Addr) (c : Nat) (u : Value), NdRow w (fun b => ¬ MayT Γ b) (x :: r) y → (x :: r).length ≤ c → EnvAt w (MayT Γ) ρ u → WSt Γ w m ev → m + wtN (.mk 6 n (x :: r) p) < 2 ^ 40 → ev.length + (evS (.mk 6 n (x :: r) p) ρ m).length < 2 ^ 40 →
    Calls Tryz.prog 176 #[.pointer (some ⟨Γ.wb, 0, none⟩), .agg #[.int .i64 6, .string ⟨n.toArray⟩, .slice y (x :: r).length c, .int .i64 p], u] w (SEndE Γ w m ev (evS (.mk 6 n (x :: r) p) ρ m) (envS ρ (.mk 6 n (x :: r) p))) := by
  intro w m ev ρ y c u hrow hcap hu h hwt hl
  obtain ⟨B, o, rfl, hat, hrow1⟩ := hrow
  have hEV : evS (.mk 6 n (x :: r) p) ρ m = evE ρ x ++ evBs r ρ m := by
    rw [evS, if_neg (by decide), if_neg (by decide), if_neg (by decide), if_neg (by decide), if_pos rfl]
    show (evE ρ x ++ []) ++ evBs r ρ m = _
    rw [List.append_nil]
  have hEE : envS ρ (.mk 6 n (x :: r) p) = ρ := by simp [envS]
  rw [hEV] at hl ⊢
  rw [hEE]
  obtain ⟨R, hR⟩ : ∃ R, r.length = R := ⟨_, rfl⟩
  have hK : (x :: r).length = R + 1 := by rw [← hR]; rfl
  have HC : Hid (0 < R ∧ R + 1 ≤ c) := Lib.hid ⟨by omega, by omega⟩
  rw [hK]
  have hA : Below w.heap.size w (w.alloc (.cells #[.int .i64 6, .string ⟨n.toArray⟩, .slice (some ⟨B, o, none⟩) (R + 1) c, .int .i64 p] 53)) := (Below.refl _ _).alloc (Nat.le_refl _) _
  have HB := Lib.hid (Box4.new w (.int .i64 6) (.string ⟨n.toArray⟩) (.slice (some ⟨B, o, none⟩) (R + 1) c) (.int .i64 p))
  have H0 := Lib.hid (SOk.start h hA)
  have HENV := Lib.hid hu
  have HAT := Lib.hid hat
  have HROW1 := Lib.hid hrow1
  have HX := Lib.hid hX
  have HBK := Lib.hid hB
  have HA := Lib.hid hA
  have HMAY := Lib.hid h.may
  have HL := Lib.hid hl
  have HRR := Lib.hid hR
  have hwt2 : wtN (.mk 6 n (x :: r) p) = (wtN x + wtL r) + n.length + 1 := by
    rw [wtN_mk]
    rfl
  have HWT : Hid (m + wtL r < 2 ^ 40) := Lib.hid (by omega)
  have hRs : R < 2 ^ 40 := by
    have := len_wtL r
    omega
  obtain ⟨F, cap, rfl, eg, -⟩ := env_any _ ρ u w hu
  clear hA hat hrow1 hu hX hB hl hwt h hEV hEE hK hR hwt2 hr1 hcap
  go_enter Tryz.func176, Tryz.ntmps176
  go_upto_region 1 with (fail)
  obtain ⟨a, ha⟩ : ∃ a, w.heap.size = a := ⟨_, rfl⟩
  rw [ha] at HB ⊢
  have HAA := Lib.hid ha
  clear ha
  generalize World.alloc w (.cells #[.int .i64 6, .string ⟨n.toArray⟩, .slice (some ⟨B, o, none⟩) (R + 1) c, .int .i64 p] 53) = W at HA H0 HB ⊢
  have haw : ∀ w1, Owp (MayT Γ) W w1 → Box4 w1 a (.int .i64 6) (.string ⟨n.toArray⟩) (.slice (some ⟨B, o, none⟩) (R + 1) c) (.int .i64 p) := fun w1 ho => (ho.block a HB.out.lt (fun hm => by have := HMAY.out a hm; have := HAA.out; omega)).trans HB.out
  have HAW := Lib.hid haw
  clear haw
  obtain ⟨x0, x1', x2, x3, xf⟩ := HB.out.facts
  have hc1 : ¬ c = 1 := by have := HC.out; omega
  obtain ⟨k1, n1, l1, p1⟩ := x
  obtain ⟨hok1, z0, z1, z3, y1, c1, z2, hk1⟩ := (HAT.out.mono (fun _ h _ => h) (fun b hb hl => H0.out.2.2.block b hl hb) : NdAt W (fun b => ¬ MayT Γ b) (.mk k1 n1 l1 p1) B o)
  have cx := HX.out W m _ ρ (.agg #[.int .i64 k1, .string ⟨n1.toArray⟩, .slice y1 l1.length c1, .int .i64 p1]) _ ⟨y1, c1, rfl, hk1⟩ (HENV.out.owp H0.out.2.2) H0.out.2.1 (by
    have := HL.out
    simp only [List.length_append, List.length_nil] at this ⊢
    omega)
  clear hok1 hk1
  go_wp2_with fail
  refine cx.mono ?_
  clear cx x0 x1' x2 x3 xf z0 z1 z2 z3
  rintro e w6 (⟨rfl, hok⟩ | hbad)
  · have HOK : Hid (SOk Γ w m ev (evE ρ (.mk k1 n1 l1 p1)) w6) := Lib.hid (SOk.trans (e1 := []) H0.out hok)
    have HO6 : Hid (Owp (MayT Γ) W w6) := Lib.hid hok.2.2
    clear hok
    have HB6 := Lib.hid (HAW.out w6 HO6.out)
    obtain ⟨x0, x1', x2, x3, xf⟩ := HB6.out.facts
    go_upto_region 20 with (fail)
    go_wp2_with fail
    go_loopg [105] R (fun g v wx => ∃ i : Nat, v = .int .i64 i ∧ i + g = R ∧ SOk Γ w m ev (evE ρ (.mk k1 n1 l1 p1) ++ evBs (r.take i) ρ m) wx)
    case atStart => exact ⟨0, rfl, by omega, by (rw [List.take_zero]; show SOk _ _ _ _ (_ ++ []) _; rw [List.append_nil]; exact HOK.out)⟩
    case round =>
      clear HOK x0 x1' x2 x3 xf HB6
      obtain ⟨i, rfl, hi, hok⟩ := hrel
      have HOK := Lib.hid hok
      clear hok
      by_cases hlt : i < R
      · obtain ⟨b, hb⟩ : ∃ b, r[i]? = some b := ⟨r[i]'(by have := HRR.out; omega), List.getElem?_eq_getElem _⟩
        have hmem := List.mem_of_getElem? hb
        obtain ⟨B1, o1, hbo, hat⟩ := (NdRow.mono (fun _ h _ => h) (fun b hb hl => HOK.out.2.2.block b hl hb) _ _ HROW1.out : NdRow wr (fun b => ¬ MayT Γ b) r (some ⟨B, o + 4, none⟩)).at_ hb
        cases hbo
        obtain ⟨k2, n2, l2, p2⟩ := b
        have htk : r.take (i + 1) = r.take i ++ [.mk k2 n2 l2 p2] := by rw [List.take_add_one, hb]; rfl
        have hevs : evBs (r.take (i + 1)) ρ m = evBs (r.take i) ρ m ++ evSs l2 (none :: ρ) m := by
          rw [htk, evBs_app]
          show _ ++ (evSs l2 (none :: ρ) m ++ []) = _
          rw [List.append_nil]
        obtain ⟨E2, hcat⟩ : ∃ E2, evE ρ (.mk k1 n1 l1 p1) ++ evBs r ρ m = (evE ρ (.mk k1 n1 l1 p1) ++ evBs (r.take i) ρ m) ++ (evSs l2 (none :: ρ) m ++ E2) := by
          refine ⟨evBs (r.drop (i + 1)) ρ m, ?_⟩
          have h1 : r = r.take (i + 1) ++ r.drop (i + 1) := (List.take_append_drop _ _).symm
          conv => lhs; rw [h1]
          rw [evBs_app, hevs]
          simp only [List.append_assoc]
        have hwx := wtL_mem hmem
        rw [wtN_mk] at hwx
        obtain ⟨-, z0, z1, z3, y2, c2, z2, hk2⟩ := hat
        have HY := Lib.hid (HBK.out _ hmem)
        have HEV := Lib.hid hevs
        have HCAT := Lib.hid hcat
        have HK2 := Lib.hid hk2
        have HWX := Lib.hid hwx
        have hlt' : (i : Int) < (R : Int) := by omega
        have Qi1 : IntKind.i64.wrap ((i : Int) + 1) = (i : Int) + 1 := IntWalk.i64_in _ (by omega)
        clear hb hmem hevs hcat hk2 htk hwx
        go_upto_region 23 with (fail)
        have hal : Below wr.heap.size wr (wr.alloc (.cells #[.int .i64 k2, .string ⟨n2.toArray⟩, .slice y2 l2.length c2, .int .i64 p2] 53)) := (Below.refl _ _).alloc (Nat.le_refl _) _
        have HS1 := Lib.hid (⟨HOK.out.1, HOK.out.2.1.below hal, HOK.out.2.2.below hal⟩ : SOk Γ w m ev _ _)
        have HK3 := Lib.hid (HK2.out.below hal)
        have HBX := Lib.hid (Box4.new wr (.int .i64 k2) (.string ⟨n2.toArray⟩) (.slice y2 l2.length c2) (.int .i64 p2))
        clear z0 z1 z2 z3 HOK HK2 hal
        obtain ⟨bx, hbx⟩ : ∃ bx, wr.heap.size = bx := ⟨_, rfl⟩
        rw [hbx] at HBX ⊢
        clear hbx
        generalize World.alloc wr (.cells #[.int .i64 k2, .string ⟨n2.toArray⟩, .slice y2 l2.length c2, .int .i64 p2] 53) = w7 at HS1 HK3 HBX ⊢
        obtain ⟨x0, x1', x2, x3, xf⟩ := HBX.out.facts
        have cb := HY.out w7 m _ ρ y2 c2 _ HK3.out (HENV.out.owp HS1.out.2.2) HS1.out.2.1 (by
          have h1 := HWT.out
          have h2 := HWX.out
          show m + wtL l2 < _
          omega) (by
          have := HL.out
          rw [HCAT.out] at this
          show _ + (evSs l2 (none :: ρ) m).length < _
          simp only [List.length_append] at this ⊢
          omega)
        rw [show (Nd.mk k2 n2 l2 p2).kids = l2 from rfl] at cb
        go_wp2_with fail
        refine cb.mono ?_
        clear cb x0 x1' x2 x3 xf
        rintro e w8 (⟨rfl, hok⟩ | hbad)
        · have HOK : Hid (SOk Γ w m ev (evE ρ (.mk k1 n1 l1 p1) ++ evBs (r.take (i + 1)) ρ m) w8) := by
            show SOk _ _ _ _ _ _
            rw [HEV.out, ← List.append_assoc]
            exact SOk.trans HS1.out hok
          clear hok
          go_wp2_with fail
          go_roundg (gk - 1)
          case measure => omega
          case rel => exact ⟨i + 1, rfl, by omega, HOK.out⟩
        · have hb2 : SBad Γ w (evE ρ (.mk k1 n1 l1 p1) ++ evBs r ρ m) e w8 := by
            rw [HCAT.out]
            exact SBad.right HS1.out (SBad.left hbad _)
          obtain ⟨ch, rfl⟩ := hbad.pan
          exact ⟨rfl, .inr hb2⟩
      · have hlt' : ¬ (i : Int) < (R : Int) := by omega
        have HE : Hid (SOk Γ w m ev (evE ρ (.mk k1 n1 l1 p1) ++ evBs r ρ m) wr) := by
          show SOk _ _ _ _ _ _
          have := HOK.out
          rw [List.take_of_length_le (by have := HRR.out; omega)] at this
          exact this
        have HE9 := Lib.hid (HENV.out.owp HE.out.2.2)
        clear HOK
        go_wp2_with fail
        go_ret
        exact .inl ⟨_, rfl, HE9.out, HE.out⟩
  · have hb2 : SBad Γ w (evE ρ (.mk k1 n1 l1 p1) ++ evBs r ρ m) e w6 := SBad.right (e1 := []) H0.out (SBad.left hbad _)
    obtain ⟨ch, rfl⟩ := hbad.pan
    exact ⟨rfl, .inr hb2⟩
end Go.Proofs.YtpbkeamjdolpgaaGreatDoor
namespace Go.Proofs.YtpbkeamjdolpgaaGreatDoor
open Go.RowKit Go.Lib

theorem stmt3_any (Γ : SCtx) (hw : WrongOk Γ) (n : List UInt8) (k0 : Int) (n0 : List UInt8) (l0 : List Nd) (p0 : Int) (x1 : Nd) (p : Int) (hX : ExprOk Γ x1) : StmtOk Γ (.mk 3 n [.mk k0 n0 l0 p0, x1] p) := by
  have hb := body1_step Γ hw 3 n k0 n0 l0 p0 x1 p hX
  have e : (fun (ρ : Env) (m : Nat) => defE ρ 1 n p ++ (parE (none :: some (1, n, l0.length) :: ρ) l0 ++ evEs (parV (none :: some (1, n, l0.length) :: ρ) l0) [x1])) = fun ρ m => evS (.mk 3 n [.mk k0 n0 l0 p0, x1] p) ρ m := by
    funext ρ m
    rw [evS, if_neg (by decide), if_neg (by decide), if_pos rfl, List.append_assoc]
    rfl
  rw [e] at hb
  exact stmt3_step Γ n _ p hb
theorem stmt2_any (Γ : SCtx) (hw : WrongOk Γ) (n : List UInt8) (k0 : Int) (n0 : List UInt8) (l0 : List Nd) (p0 : Int) (x1 : Nd) (p : Int) (hX : BlockOk Γ x1.kids) : StmtOk Γ (.mk 2 n [.mk k0 n0 l0 p0, x1] p) := by
  have hb := body2_step Γ hw 2 n k0 n0 l0 p0 x1 p hX
  have e : (fun (ρ : Env) (m : Nat) => defE ρ 2 n p ++ (parE (none :: some (2, n, l0.length) :: ρ) l0 ++ evBs [x1] (parV (none :: some (2, n, l0.length) :: ρ) l0) (m + 1))) = fun ρ m => evS (.mk 2 n [.mk k0 n0 l0 p0, x1] p) ρ m := by
    funext ρ m
    rw [evS, if_neg (by decide), if_pos rfl, List.append_assoc]
    rfl
  rw [e] at hb
  exact stmt2_step Γ n _ p hb
theorem stmt7_any (Γ : SCtx) (hw : WrongOk Γ) (n : List UInt8) (k0 : Int) (n0 : List UInt8) (l0 : List Nd) (p0 : Int) (r : List Nd) (p : Int) (hr : r.length ≤ 1) (hn : n.length < 2 ^ 40) (ihE : ∀ x ∈ l0, ExprOk Γ x) (ihB : ∀ x ∈ r, BlockOk Γ x.kids) : StmtOk Γ (.mk 7 n (.mk k0 n0 l0 p0 :: r) p) :=
  stmt7_step Γ n _ p (call_step Γ hw 7 n k0 n0 l0 p0 r p hr hn ihE ihB)
end Go.Proofs.YtpbkeamjdolpgaaGreatDoor
namespace Go.Proofs.YtpbkeamjdolpgaaGreatDoor
open Go.RowKit Go.Lib

def okW (w : Int) (x : Nd) : Bool := if w < 0 then exR x else decide (x.kind = w) && partR x
theorem shR1 {a : Int} : ∀ {kids : List Nd}, shR [a] kids = true → ∃ x, kids = [x] ∧ okW a x = true
  | [], h => by simp [shR] at h
  | [x], h => by
    refine ⟨x, rfl, ?_⟩
    rw [shR, Bool.and_eq_true] at h
    exact h.1
  | _ :: _ :: _, h => by simp [shR] at h
theorem shR2 {a b : Int} : ∀ {kids : List Nd}, shR [a, b] kids = true → ∃ x y, kids = [x, y] ∧ okW a x = true ∧ okW b y = true
  | [], h => by simp [shR] at h
  | x :: r, h => by
    rw [shR, Bool.and_eq_true] at h
    obtain ⟨y, rfl, hy⟩ := shR1 h.2
    exact ⟨x, y, rfl, h.1, hy⟩
theorem shR3 {a b c : Int} : ∀ {kids : List Nd}, shR [a, b, c] kids = true → ∃ x y z, kids = [x, y, z] ∧ okW a x = true ∧ okW b y = true ∧ okW c z = true
  | [], h => by simp [shR] at h
  | x :: r, h => by
    rw [shR, Bool.and_eq_true] at h
    obtain ⟨y, z, rfl, hy, hz⟩ := shR2 h.2
    exact ⟨x, y, z, rfl, h.1, hy, hz⟩
theorem okW_ex {x : Nd} (h : okW (-1) x = true) : exR x = true := h
theorem okW_blk {x : Nd} (h : okW 0 x = true) : stsR x.kids = true := by
  obtain ⟨k, n, l, p⟩ := x
  rw [okW, if_neg (by decide), Bool.and_eq_true, partR, Bool.and_eq_true] at h
  obtain ⟨h1, -, h2⟩ := h
  obtain rfl : k = 0 := of_decide_eq_true h1
  rwa [if_pos rfl] at h2
theorem okW_arg {x : Nd} (h : okW 8 x = true) : exsR x.kids = true := by
  obtain ⟨k, n, l, p⟩ := x
  rw [okW, if_neg (by decide), Bool.and_eq_true, partR, Bool.and_eq_true] at h
  obtain ⟨h1, -, h2⟩ := h
  obtain rfl : k = 8 := of_decide_eq_true h1
  rwa [if_neg (by decide), if_neg (by decide)] at h2
theorem stsR_each : ∀ {l : List Nd}, stsR l = true → ∀ x ∈ l, stR x = true
  | y :: r, h, x, hx => by
    have h' : (stR y && stsR r) = true := h
    rw [Bool.and_eq_true] at h'
    rcases List.mem_cons.1 hx with rfl | hx
    · exact h'.1
    · exact stsR_each h'.2 x hx
theorem stmt6_any (Γ : SCtx) (n : List UInt8) (x : Nd) (r : List Nd) (p : Int) (hX : ExprOk Γ x) (hB : ∀ b ∈ r, BlockOk Γ b.kids) (hr : 0 < r.length) : StmtOk Γ (.mk 6 n (x :: r) p) := by
  intro w m ev ρ v u hv hu h hwt hl
  obtain ⟨y, ⟨c, hc⟩, rfl, hrow⟩ := hv
  exact stmt6_step Γ n x r p hX hB hr w m ev ρ y c u hrow hc hu h hwt hl
theorem sstmt_any (Γ : SCtx) (hw : WrongOk Γ) : ∀ (N : Nat) (x : Nd), wtN x < N → wtN x < 2 ^ 40 → stR x = true → StmtOk Γ x
  | N + 1, .mk k n kids p, hN, hs, hx => by
    rw [wtN_mk] at hN hs
    have hE : ∀ y ∈ kids, exR y = true → ExprOk Γ y := fun y hy he => sexpr_any Γ hw (wtN y + 1) y (Nat.lt_succ_self _) (by have := wtL_mem hy; omega) (.inl he)
    have hA : ∀ y ∈ kids, okW 8 y = true → ∀ z ∈ y.kids, ExprOk Γ z := fun y hy hy8 z hz => by
      have h1 := wtL_mem hy
      obtain ⟨k', n', l', p'⟩ := y
      rw [wtN_mk] at h1
      have h2 := wtL_mem (show z ∈ l' from hz)
      exact sexpr_any Γ hw (wtN z + 1) z (Nat.lt_succ_self _) (by omega) (.inl (exsR_each (okW_arg hy8) z hz))
    have hB : ∀ y ∈ kids, okW 0 y = true → BlockOk Γ y.kids := fun y hy hb => block_step Γ y.kids fun z hz => by
      have h1 := wtL_mem hy
      obtain ⟨k', n', l', p'⟩ := y
      rw [wtN_mk] at h1
      have h2 := wtL_mem (show z ∈ l' from hz)
      exact sstmt_any Γ hw N z (by omega) (by omega) (stsR_each (okW_blk hb) z hz)
    rw [stR] at hx
    by_cases k6 : k = 6
    · subst k6
      rw [if_pos rfl, Bool.and_eq_true] at hx
      have h2 := hx.2
      split at h2
      · obtain ⟨x, y, rfl, hx1, hy⟩ := shR2 h2
        exact stmt6_any Γ n x [y] p (hE x (by simp) (okW_ex hx1)) (fun b hb => by
          obtain rfl := List.mem_singleton.1 hb
          exact hB b (by simp) hy) (by simp)
      · obtain ⟨x, y, z, rfl, hx1, hy, hz⟩ := shR3 h2
        refine stmt6_any Γ n x [y, z] p (hE x (by simp) (okW_ex hx1)) (fun b hb => ?_) (by simp)
        rcases List.mem_cons.1 hb with rfl | hb
        · exact hB b (by simp) hy
        · obtain rfl := List.mem_singleton.1 hb
          exact hB b (by simp) hz
    rw [if_neg k6, Bool.and_eq_true] at hx
    have hx := hx.2
    by_cases k1 : k = 1
    · subst k1
      rw [if_pos rfl] at hx
      obtain ⟨x, rfl, hx1⟩ := shR1 hx
      exact stmt1_step Γ hw n x p (hE x (by simp) (okW_ex hx1))
    rw [if_neg k1] at hx
    by_cases k2 : k = 2
    · subst k2
      rw [if_pos rfl] at hx
      obtain ⟨⟨k0, n0, l0, p0⟩, y, rfl, hx1, hy⟩ := shR2 hx
      exact stmt2_any Γ hw n k0 n0 l0 p0 y p (hB y (by simp) hy)
    rw [if_neg k2] at hx
    by_cases k3 : k = 3
    · subst k3
      rw [if_pos rfl] at hx
      obtain ⟨⟨k0, n0, l0, p0⟩, y, rfl, hx1, hy⟩ := shR2 hx
      exact stmt3_any Γ hw n k0 n0 l0 p0 y p (hE y (by simp) (okW_ex hy))
    rw [if_neg k3] at hx
    by_cases k5 : k = 5
    · subst k5
      rw [if_pos rfl] at hx
      obtain ⟨x, y, rfl, hx1, hy⟩ := shR2 hx
      exact stmt5_step Γ hw n x y p (hE x (by simp) (okW_ex hx1)) (hB y (by simp) hy)
    rw [if_neg k5] at hx
    by_cases k7 : k = 7
    · subst k7
      rw [if_pos rfl] at hx
      split at hx
      · obtain ⟨⟨k0, n0, l0, p0⟩, rfl, hx1⟩ := shR1 hx
        exact stmt7_any Γ hw n k0 n0 l0 p0 [] p (by simp) (by omega) (hA _ (by simp) hx1) (fun b hb => by cases hb)
      · obtain ⟨⟨k0, n0, l0, p0⟩, y, rfl, hx1, hy⟩ := shR2 hx
        exact stmt7_any Γ hw n k0 n0 l0 p0 [y] p (by simp) (by omega) (hA _ (by simp) hx1) (fun b hb => by
          obtain rfl := List.mem_singleton.1 hb
          exact hB b (by simp) hy)
    rw [if_neg k7] at hx
    cases hx
theorem sblock_any (Γ : SCtx) (hw : WrongOk Γ) (l : List Nd) (hs : wtL l < 2 ^ 40) (hx : stsR l = true) : BlockOk Γ l :=
  block_step Γ l fun z hz => sstmt_any Γ hw (wtN z + 1) z (Nat.lt_succ_self _) (by have := wtL_mem hz; omega) (stsR_each hx z hz)
end Go.Proofs.YtpbkeamjdolpgaaGreatDoor
namespace Go.Proofs.YtpbkeamjdolpgaaGreatDoor

theorem exprE_len (ρ : Env) (k : Int) (n : List UInt8) (kids : List Nd) (p : Int) : (exprE ρ k n kids p).length ≤ 2 := by
  unfold exprE
  split
  · split <;> simp
  · split
    · rw [List.length_cons]
      split
      · simp
      · split <;> simp
    · simp
theorem dupE_len (ρ : Env) (n : List UInt8) (p : Int) : (dupE ρ n p).length ≤ 1 := by
  unfold dupE
  split <;> simp
theorem defE_len (ρ : Env) (k : Nat) (n : List UInt8) (p : Int) : (defE ρ k n p).length ≤ 1 := by
  unfold defE
  generalize ((if k = 1 then (fnB n).isSome else (mdB n).isSome) || (findE ρ k n true).isSome) = b
  cases b <;> simp
theorem callE_len (ρ : Env) (m : Nat) (n : List UInt8) (kids : List Nd) (p : Int) : (callE ρ m n kids p).length ≤ 2 := by
  unfold callE
  rw [List.length_cons]
  split
  · simp
  · split <;> simp
theorem parE_len : ∀ (l : List Nd) (ρ : Env), (parE ρ l).length ≤ l.length
  | [], _ => Nat.le_refl _
  | .mk _ n _ p :: r, ρ => by
    rw [parE, List.length_append, List.length_cons]
    have := dupE_len ρ n p
    have := parE_len r (some (0, n, 0) :: ρ)
    omega
mutual
theorem evE_len (ρ : Env) : ∀ x : Nd, (evE ρ x).length ≤ 2 * wtN x
  | .mk k n kids p => by
    rw [evE, List.length_append, wtN_mk]
    have := exprE_len ρ k n kids p
    have := evEs_len ρ kids
    omega
theorem evEs_len (ρ : Env) : ∀ l : List Nd, (evEs ρ l).length ≤ 2 * wtL l
  | [] => by simp [evEs]
  | x :: r => by
    rw [evEs, List.length_append, wtL]
    have := evE_len ρ x
    have := evEs_len ρ r
    omega
end
theorem body_wt : ∀ (kids : List Nd), wtL (bodyOf kids) + wtL kids.tail ≤ wtL kids
  | [] => by simp [bodyOf, wtL]
  | .mk k n l p :: r => by
    show wtL l + wtL r ≤ wtN (.mk k n l p) + wtL r
    rw [wtN_mk]
    omega
theorem take_wt : ∀ (kids : List Nd), wtL (kids.take 1) + wtL kids.tail ≤ wtL kids
  | [] => by simp [wtL]
  | x :: r => by
    show wtN x + wtL [] + wtL r ≤ wtN x + wtL r
    have : wtL [] = 0 := rfl
    omega
mutual
theorem evS_len : ∀ (x : Nd) (ρ : Env) (m : Nat), (evS x ρ m).length ≤ 2 * wtN x
  | .mk k n kids p, ρ, m => by
    rw [evS, wtN_mk]
    have hb := body_wt kids
    have ht := take_wt kids
    have hl := len_wtL (bodyOf kids)
    have h1 := dupE_len ρ n p
    have h2 := callE_len ρ m n kids p
    have h3 := fun k => defE_len ρ k n p
    have h4 := fun ρ => parE_len (bodyOf kids) ρ
    have h5 := fun ρ m => evT_len kids ρ m
    have h6 := fun ρ l => evEs_len ρ l
    split
    · rw [List.length_append]
      have := h6 ρ kids
      omega
    split
    · rw [List.length_append, List.length_append]
      have := h3 2
      have := h4 (none :: some (2, n, argc kids) :: ρ)
      have := h5 (parV (none :: some (2, n, argc kids) :: ρ) (bodyOf kids)) (m + 1)
      omega
    split
    · rw [List.length_append, List.length_append]
      have := h3 1
      have := h4 (none :: some (1, n, argc kids) :: ρ)
      have := h6 (parV (none :: some (1, n, argc kids) :: ρ) (bodyOf kids)) kids.tail
      omega
    split
    · rw [List.length_append, List.length_append]
      have := h5 (some (0, n, 0) :: ρ) m
      have := h6 ρ (kids.take 1)
      have h7 : (if truthB n then [Ev.bad 280 n p] else []).length ≤ 1 := by split <;> simp
      omega
    split
    · rw [List.length_append]
      have := h5 ρ m
      have := h6 ρ (kids.take 1)
      omega
    · rw [List.length_append, List.length_append]
      have := h5 ρ m
      have := h6 ρ (bodyOf kids)
      omega
theorem evT_len : ∀ (l : List Nd) (ρ : Env) (m : Nat), (evT l ρ m).length ≤ 2 * wtL l.tail
  | [], _, _ => by simp [evT]
  | _ :: r, ρ, m => by
    rw [evT]
    exact evBs_len r ρ m
theorem evBs_len : ∀ (l : List Nd) (ρ : Env) (m : Nat), (evBs l ρ m).length ≤ 2 * wtL l
  | [], _, _ => by simp [evBs]
  | x :: r, ρ, m => by
    rw [evBs, List.length_append, wtL]
    have := evB_len x ρ m
    have := evBs_len r ρ m
    omega
theorem evB_len : ∀ (x : Nd) (ρ : Env) (m : Nat), (evB x ρ m).length ≤ 2 * wtN x
  | .mk _ n l _, ρ, m => by
    rw [evB, wtN_mk]
    have := evSs_len l (none :: ρ) m
    omega
theorem evSs_len : ∀ (l : List Nd) (ρ : Env) (m : Nat), (evSs l ρ m).length ≤ 2 * wtL l
  | [], _, _ => by simp [evSs]
  | x :: r, ρ, m => by
    rw [evSs, List.length_append, wtL]
    have := evS_len x ρ m
    have := evSs_len r (envS ρ x) m
    omega
end
end Go.Proofs.YtpbkeamjdolpgaaGreatDoor
namespace Go.Proofs.YtpbkeamjdolpgaaGreatDoor
open Go.RowKit Go.Lib

set_option maxHeartbeats 4000000 in
set_option maxRecDepth 100000 in
theorem wrong_stop (Γ : SCtx) (h1 : Γ.wf = 75) (h2 : Γ.all = false) : WrongOk Γ := by
  unfold WrongOk
  rw [h1, h2]
  refine ⟨fun _ _ => rfl, fun k n y len c p code w => ?_⟩
  have hB := Box4.new w (.int .i64 k) (.string ⟨n.toArray⟩) (.slice y len c) (.int .i64 p)
  obtain ⟨x0, x1, x2, x3, xf⟩ := hB.facts
  have hA : Below w.heap.size w (w.alloc (.cells #[.int .i64 k, .string ⟨n.toArray⟩, .slice y len c, .int .i64 p] 53)) := (Below.refl _ _).alloc (Nat.le_refl _) _
  have HA := Lib.hid hA
  clear hA hB
  go_enter Tryz.func75, Tryz.ntmps75
  go_wp2_with fail
  have hz := World.size_alloc w (.cells #[.int .i64 k, .string ⟨n.toArray⟩, .slice y len c, .int .i64 p] 53)
  refine ⟨rfl, .inr ⟨trivial, HA.out.alloc (by rw [hz]; omega) _, w.heap.size + 1, by omega, rfl, ?_⟩⟩
  have := heap_alloc_new (w.alloc (.cells #[.int .i64 k, .string ⟨n.toArray⟩, .slice y len c, .int .i64 p] 53)) (.cells #[.int .i64 code, .int .i64 p, .string ⟨n.toArray⟩] 61)
  rwa [hz] at this
set_option maxHeartbeats 4000000 in
set_option maxRecDepth 100000 in
theorem wrong_free (Γ : SCtx) (h1 : Γ.wf = 77) (h2 : Γ.all = true) : WrongOk Γ := by
  unfold WrongOk
  rw [h1, h2]
  refine ⟨fun _ _ => rfl, fun k n y len c p code w => ?_⟩
  have hA : Below w.heap.size w (w.alloc (.cells #[.int .i64 k, .string ⟨n.toArray⟩, .slice y len c, .int .i64 p] 53)) := (Below.refl _ _).alloc (Nat.le_refl _) _
  go_enter Tryz.func77, Tryz.ntmps77
  go_wp2_with fail
  go_end0
  exact .inl ⟨trivial, rfl, hA⟩
def GoneEnd (all : Bool) (l : List Nd) (w : World) (e : Ending) (w' : World) : Prop :=
  (∃ wb eb cb, e = .returned (.pointer (some ⟨wb, 0, none⟩)) ∧ w'.cell? ⟨wb, 5, none⟩ = some (.map (some eb)) ∧ w'.cell? ⟨wb, 6, none⟩ = some (.map (some cb)) ∧ CntMap w' eb (missE (evX l)) ∧ CntMap w' cb (calledE (evX l)) ∧ (all = true ∨ wrongE (evX l) = none) ∧ Below w.heap.size w w') ∨
  (all = false ∧ ∃ c n p b, wrongE (evX l) = some (c, n, p) ∧ w.heap.size ≤ b ∧ e = .panicked [{ v := .iface 23 (.pointer (some ⟨b, 0, none⟩)), recovered := false }] ∧ w'.heap[b]? = some (.cells #[.int .i64 c, .int .i64 p, .string ⟨n.toArray⟩] 61 (0, 0)) ∧ Below w.heap.size w w')
set_option maxHeartbeats 4000000 in
set_option maxRecDepth 100000 in
theorem gone_any (wf : Nat) (all : Bool) (hw : ∀ Γ : SCtx, Γ.wf = wf → Γ.all = all → WrongOk Γ) (l : List Nd) (hs : wtL l < 2 ^ 38) (hx : stsR l = true) (ok : Nat → Prop) (y : Option Addr) (c : Nat) (w : World) (hrow : NdRow w ok l y) (hok : ∀ b, ok b → b < w.heap.size) :
    Calls Tryz.prog 74 #[.slice y l.length c, .func (.func wf) #[] #[]] w (GoneEnd all l w) := by
  have hmm := @run_makeMap Tryz.prog
  have cf := functions_any
  have cm := modules_any
  have HROW := Lib.hid hrow
  have HW := Lib.hid hw
  clear hrow hw
  go_enter Tryz.func74, Tryz.ntmps74
  go_wp2_with (first | (go_at_call 132; refine (cf _).mono ?_; rintro e w1 ⟨fb, rfl, hf1, hf2, hf3⟩) | (go_at_call 133; refine (cm _).mono ?_; rintro e w2 ⟨mb, rfl, hm1, hm2, hm3⟩))
  obtain ⟨s2, hs2⟩ : ∃ s, w2.heap.size = s := ⟨_, rfl⟩
  have hz1 := World.size_alloc w2 (.map #[] 0)
  have hz2 := World.size_alloc (w2.alloc (.map #[] 0)) (.map #[] 0)
  have hz3 := World.size_alloc ((w2.alloc (.map #[] 0)).alloc (.map #[] 0)) (.cells #[.map none, .map (some fb), .map (some mb), .int .i64 0, .func (.func wf) #[] #[], .map (some s2), .map (some (s2 + 1))] 121)
  rw [hs2] at hz1 ⊢
  rw [hz1] at hz2
  rw [hz2] at hz3
  obtain ⟨W, hW⟩ : ∃ W, ((w2.alloc (.map #[] 0)).alloc (.map #[] 0)).alloc (.cells #[.map none, .map (some fb), .map (some mb), .int .i64 0, .func (.func wf) #[] #[], .map (some s2), .map (some (s2 + 1))] 121) = W := ⟨_, rfl⟩
  have hblk : W.heap[s2 + 1 + 1]? = some (.cells #[.map none, .map (some fb), .map (some mb), .int .i64 0, .func (.func wf) #[] #[], .map (some s2), .map (some (s2 + 1))] 121 (0, 0)) := by
    rw [← hW]
    have := heap_alloc_new ((w2.alloc (.map #[] 0)).alloc (.map #[] 0)) (.cells #[.map none, .map (some fb), .map (some mb), .int .i64 0, .func (.func wf) #[] #[], .map (some s2), .map (some (s2 + 1))] 121)
    rwa [hz2] at this
  have hb2 : Below s2 w2 W := by
    rw [← hW]
    exact (((Below.refl _ _).alloc (by omega) _).alloc (by rw [hz1]; omega) _).alloc (by rw [hz2]; omega) _
  have hbe : W.heap[s2]? = some (.map #[] 0) := by
    rw [← hW]
    refine (Below.heap_alloc _ _ _ (by rw [hz2]; omega)).trans ((Below.heap_alloc _ _ _ (by rw [hz1]; omega)).trans ?_)
    have := heap_alloc_new w2 (.map #[] 0)
    rwa [hs2] at this
  have hbc : W.heap[s2 + 1]? = some (.map #[] 0) := by
    rw [← hW]
    refine (Below.heap_alloc _ _ _ (by rw [hz2]; omega)).trans ?_
    have := heap_alloc_new (w2.alloc (.map #[] 0)) (.map #[] 0)
    rwa [hz1] at this
  have hcnt : ∀ b, W.heap[b]? = some (.map #[] 0) → CntMap W b [] := fun b hb => by
    obtain ⟨es, clock, h1, h2, h3, h4⟩ := World.ownsMap_made (H := Unit) w2 Tryz.prog 9 (plainElem Tryz.prog 3)
    rw [(MapKept.heap_alloc w2 _).1] at h1
    cases h1
    exact ⟨_, ⟨_, _, hb, h2, h3, h4⟩, CntD.nil⟩
  have hbw : Below w.heap.size w W := (hf3.trans (hm3.mono hf3.size)).trans (hb2.mono (by have := hf3.size; have := hm3.size; omega))
  have h12 := hm3.size
  have h01 := hf3.size
  have hfl := hf2.lt
  have hml := hm2.lt
  have hws : WSt ⟨s2 + 1 + 1, fb, mb, s2, s2 + 1, wf, all⟩ W 0 [] := by
    refine ⟨hblk, (hf2.keep (hm3.block _ hfl)).keep (hb2.block _ (by omega)), hm2.keep (hb2.block _ (by omega)), hcnt _ hbe, hcnt _ hbc, ?_, ?_, ?_, ?_, ?_⟩
    · show s2 + 1 + 1 ≠ s2
      omega
    · show s2 + 1 + 1 ≠ s2 + 1
      omega
    · show s2 ≠ s2 + 1
      omega
    · rintro (h | h | h) <;> (dsimp only at h; omega)
    · rintro (h | h | h) <;> (dsimp only at h; omega)
  have hnm : ∀ b, MayT ⟨s2 + 1 + 1, fb, mb, s2, s2 + 1, wf, all⟩ b → w.heap.size ≤ b := by
    rintro b (h | h | h) <;> (dsimp only at h; omega)
  have hrow' : NdRow W (fun b => ¬ MayT ⟨s2 + 1 + 1, fb, mb, s2, s2 + 1, wf, all⟩ b) l y := NdRow.mono (fun k hk _ hm => by have := hnm k hm; have := hok k hk; omega) (fun k _ hk => hbw.block k hk) _ _ HROW.out
  have hl1 := evSs_len l [none] 0
  have cb := sblock_any ⟨s2 + 1 + 1, fb, mb, s2, s2 + 1, wf, all⟩ (HW.out _ rfl rfl) l (by omega) hx W 0 [] [] y c _ hrow' rfl hws (by omega) (by simp only [List.length_nil]; omega)
  rw [hW]
  refine cb.mono ?_
  have HBW := Lib.hid hbw
  have HNM := Lib.hid hnm
  clear cb hws hrow' hl1 hbw hnm hcnt hbe hbc hblk hb2 hW hz1 hz2 hz3 hf1 hf2 hf3 hm1 hm2 hm3 cf cm hmm
  rintro e w4 (⟨rfl, hall, hst, how⟩ | ⟨h0, cc, nn, pp, bb, h1, h2, rfl, h4, h5⟩)
  · have hbel : Below w.heap.size w w4 := HBW.out.trans ⟨how.os, how.tape, how.output, by have := HBW.out.size; have := how.size; omega, fun k hk => how.block k (by have := HBW.out.size; omega) (fun hm => by have := HNM.out k hm; omega)⟩
    have HS := Lib.hid hst
    have HBL := Lib.hid hbel
    have HALL := Lib.hid hall
    clear hst how hbel hall
    go_wp2_with fail
    go_ret
    obtain ⟨-, -, -, -, -, c5, c6, -⟩ := HS.out.cells
    refine .inl ⟨_, _, _, rfl, c5, c6, ?_, ?_, HALL.out, HBL.out⟩
    · exact HS.out.fre
    · exact HS.out.cal
  · exact ⟨rfl, .inr ⟨h0, cc, nn, pp, bb, h1, Nat.le_trans HBW.out.size h2, rfl, h4, HBW.out.trans ⟨h5.os, h5.tape, h5.output, by have := HBW.out.size; have := h5.size; omega, fun k hk => h5.block k (by have := HBW.out.size; omega) (fun hm => by have := HNM.out k hm; omega)⟩⟩⟩
end Go.Proofs.YtpbkeamjdolpgaaGreatDoor
namespace Go.Proofs.YtpbkeamjdolpgaaGreatDoor
open Go.RowKit Go.Lib

theorem Tryz.noFaultE (w : World) : (Instr.typeAssert .nilIface 20 23 true).run Tryz.prog w = .ok (.tuple #[.pointer none, .bool false]) w := by kernel_rfl
set_option maxHeartbeats 400000 in
set_option maxRecDepth 100000 in
theorem sdoor_dies (pe : Nat) (v1 : Value) (b : Nat) (w : World) (hc1 : w.cell? ⟨pe, 0, none⟩ = some v1) (hz1 : w.frozen? ⟨pe, 0, none⟩ = false) :
    CallsD Tryz.prog 73 #[.pointer (some ⟨pe, 0, none⟩)] (.panicking ({ v := .iface 23 (.pointer (some ⟨b, 0, none⟩)), recovered := false } :: [])) w fun e u' w' =>
      e = .returned (.tuple #[]) ∧ u' = .panicking ({ v := .iface 23 (.pointer (some ⟨b, 0, none⟩)), recovered := true } :: []) ∧ w' = w.setCell ⟨pe, 0, none⟩ (.iface 23 (.pointer (some ⟨b, 0, none⟩))) := by
  have hTA := Tryz.isFaultE
  refine callsD_of_wpS Tryz.func73 rfl fun c₀ cs hu => ?_
  apply wpS_seq
  apply wpS_region
  simp [wpOpsS, go_sem, recoverD, hu, Tryz.ntmps73, Exit.thenS, hTA]
  refine wpS_of_wp ?_
  clear hu
  refine Code.wp_mono (Q := DoorQ (w.setCell ⟨pe, 0, none⟩ (.iface 23 (.pointer (some ⟨b, 0, none⟩))))) ?_ ?_
  · rintro e a' w' ⟨rfl, hd, rfl⟩
    exact ⟨hd, _, rfl, .tuple #[], by simp [results, Tryz.results73], rfl, rfl, rfl⟩
  · clear cs c₀
    have e : (#[Value.pointer (some ⟨pe, 0, none⟩)] ++ (((((((Array.replicate 10 undef).setIfInBounds 3 (Value.iface 23 (Value.pointer (some ⟨b, 0, none⟩)))).setIfInBounds 4 (Value.tuple #[Value.pointer (some ⟨b, 0, none⟩), Value.bool true])).setIfInBounds 2 (Value.tuple #[Value.pointer (some ⟨b, 0, none⟩), Value.bool true])).setIfInBounds 5 (Value.pointer (some ⟨b, 0, none⟩))).setIfInBounds 6 (Value.bool true)).setIfInBounds 0 (Value.pointer (some ⟨b, 0, none⟩))).setIfInBounds 1 (Value.bool true) : Array Value) =
      #[Value.pointer (some ⟨pe, 0, none⟩), Value.pointer (some ⟨b, 0, none⟩), Value.bool true, Value.tuple #[Value.pointer (some ⟨b, 0, none⟩), Value.bool true], Value.iface 23 (Value.pointer (some ⟨b, 0, none⟩)), Value.tuple #[Value.pointer (some ⟨b, 0, none⟩), Value.bool true], Value.pointer (some ⟨b, 0, none⟩), Value.bool true, undef, undef, undef] := by kernel_rfl
    rw [e]
    clear e
    go_wp2_with fail
    exact ⟨rfl, rfl, rfl⟩
theorem sdoor_idle (pe : Nat) (w : World) :
    CallsD Tryz.prog 73 #[.pointer (some ⟨pe, 0, none⟩)] .returning w fun e u' w' => e = .returned (.tuple #[]) ∧ u' = .returning ∧ w' = w := by
  have hTA := Tryz.noFaultE
  refine callsD_of_wpS Tryz.func73 rfl fun c₀ cs hu => ?_
  apply wpS_seq
  apply wpS_region
  simp [wpOpsS, go_sem, recoverD, hu, Tryz.ntmps73, Exit.thenS, hTA]
  refine wpS_of_wp ?_
  refine Code.wp_mono (Q := DoorQ w) ?_ ?_
  · rintro e a' w' ⟨rfl, hd, rfl⟩
    refine ⟨hd, .returning, ?_, .tuple #[], by simp [results, Tryz.results73], rfl, rfl, rfl⟩
    cases c₀
    simp_all
  · clear hu cs c₀
    have e : (#[Value.pointer (some ⟨pe, 0, none⟩)] ++ (((((((Array.replicate 10 undef).setIfInBounds 3 Value.nilIface).setIfInBounds 4 (Value.tuple #[Value.pointer none, Value.bool false])).setIfInBounds 2 (Value.tuple #[Value.pointer none, Value.bool false])).setIfInBounds 5 (Value.pointer none)).setIfInBounds 6 (Value.bool false)).setIfInBounds 0 (Value.pointer none)).setIfInBounds 1 (Value.bool false) : Array Value) =
      #[Value.pointer (some ⟨pe, 0, none⟩), Value.pointer none, Value.bool false, Value.tuple #[Value.pointer none, Value.bool false], Value.nilIface, Value.tuple #[Value.pointer none, Value.bool false], Value.pointer none, Value.bool false, undef, undef, undef] := by kernel_rfl
    rw [e]
    clear e
    go_wp2_with fail
    exact ⟨rfl, rfl, rfl⟩
theorem res_err {fn : Func} {p : Tmp} (hr : fn.results = #[.cell p 36]) {tmps : Array Value} {w : World} {a : Nat} {v0 : Value} (hp : tmps.getD p undef = .pointer (some ⟨a, 0, none⟩)) (c0 : w.cell? ⟨a, 0, none⟩ = some v0) : (results fn tmps).run Tryz.prog w = .ok v0 w := by
  have hp' : tmps[p]?.getD undef = .pointer (some ⟨a, 0, none⟩) := by simpa using hp
  simp [results, hr, hp', go_sem, c0]
def ScEnd (l : List Nd) (w : World) (e : Ending) (w' : World) : Prop := Below w.heap.size w w' ∧
  ((checkR l ≠ 0 ∧ e = .returned (.iface 30 (.int .i64 (checkR l)))) ∨ (checkR l = 0 ∧ wrongE (evX l) = none ∧ e = .returned .nilIface) ∨
  (checkR l = 0 ∧ ∃ c n p b, wrongE (evX l) = some (c, n, p) ∧ w.heap.size ≤ b ∧ e = .returned (.iface 23 (.pointer (some ⟨b, 0, none⟩))) ∧ w'.heap[b]? = some (.cells #[.int .i64 c, .int .i64 p, .string ⟨n.toArray⟩] 61 (0, 0))))
theorem checkR_ok {l : List Nd} (h : checkR l = 0) : stsR l = true := by
  unfold checkR at h
  split at h
  · cases h
  · split at h
    · assumption
    · cases h
set_option maxHeartbeats 4000000 in
set_option maxRecDepth 100000 in
theorem scheck_any (l : List Nd) (hs : wtL l < 2 ^ 38) (ok : Nat → Prop) (y : Option Addr) (c : Nat) (w : World) (hG : Gl w) (hrow : NdRow w ok l y) (hok : ∀ b, ok b → b < w.heap.size) :
    Calls Tryz.prog 37 #[.slice y l.length c] w (ScEnd l w) := by
  have hmf : ∀ (fn : Fn) (first cap : Array Value) (w : World), (Instr.makeFunc fn first cap).run Tryz.prog w = .ok (.func fn first cap) w := fun _ _ _ _ => rfl
  have hA : Below w.heap.size w (w.alloc (.cells #[.nilIface] 36)) := (Below.refl _ _).alloc (Nat.le_refl _) _
  have hz := World.size_alloc w (.cells #[.nilIface] 36)
  have hE : (w.alloc (.cells #[.nilIface] 36)).heap[w.heap.size]? = some (.cells #[.nilIface] 36 (0, 0)) := heap_alloc_new w _
  have c0 := check_any ok l (by omega) y c _ (hG.below hA) (hrow.below hA)
  have HE : Hid (∀ w1, Below (w.alloc (.cells #[.nilIface] 36)).heap.size (w.alloc (.cells #[.nilIface] 36)) w1 → w1.heap[w.heap.size]? = some (.cells #[.nilIface] 36 (0, 0)) ∧ Below w.heap.size w w1 ∧ w.heap.size < w1.heap.size) := fun w1 hb => ⟨(hb.block _ (by rw [hz]; omega)).trans hE, hA.trans (hb.mono (by rw [hz]; omega)), by have := hb.size; omega⟩
  have HROW := Lib.hid hrow
  have HOK := Lib.hid hok
  clear hE hA hz hG hrow hok
  go_enter_defers Tryz.func37, Tryz.ntmps37
  go_wp2_with fail
  refine c0.mono ?_
  clear c0
  rintro e w1 ⟨rfl, hb1⟩
  obtain ⟨he1, hb1', hl1⟩ := HE.out w1 hb1
  have e1 := cell_of_one he1
  have e2 := free_of_one he1
  have HB1 := Lib.hid hb1'
  have HE1 := Lib.hid he1
  clear HE hb1 hb1' he1
  obtain ⟨R, hR⟩ : ∃ R, checkR l = R := ⟨_, rfl⟩
  rw [hR]
  have HR := Lib.hid hR
  clear hR
  by_cases hR0 : R = 0
  · have Q : (R != 0) = false := by simp [hR0]
    have HR0 : Hid (checkR l = 0) := Lib.hid (HR.out.trans hR0)
    have cg := gone_any 75 false (fun Γ => wrong_stop Γ) l hs (checkR_ok HR0.out) ok y c w1 (HROW.out.below HB1.out) (fun b hb => Nat.lt_trans (HOK.out b hb) hl1)
    clear hR0 HR
    go_wp2_with fail
    refine cg.mono ?_
    clear cg e1 e2
    rintro e w2 (⟨wb, eb, cb, rfl, h1, h2, h3, h4, h5, h6⟩ | ⟨-, cc, nn, pp, b, h1, h2, rfl, h3, h4⟩)
    · have he2 := (h6.block _ hl1).trans HE1.out
      have e1 := cell_of_one he2
      have e2 := free_of_one he2
      have HW : Hid (wrongE (evX l) = none) := Lib.hid (h5.resolve_left (by simp))
      have HB2 : Hid (Below w.heap.size w w2) := Lib.hid (HB1.out.trans (h6.mono (Nat.le_of_lt hl1)))
      have HE2 := Lib.hid he2
      clear h1 h2 h3 h4 h5 h6 he2
      go_wp2_with fail
      show Leaves _ _ _ _ _ _ _
      refine leaves_cons (f := 73) (args := #[.pointer (some ⟨w.heap.size, 0, none⟩)]) (by simp) (by simp [go_sem]) ?_
      refine (sdoor_idle w.heap.size _).mono ?_
      rintro e u' w'' ⟨rfl, rfl, rfl⟩
      show Leaves _ _ _ _ [] .returning _
      exact ⟨_, res_err rfl rfl (cell_of_one (t := 36) (one_setCell HE2.out)), HB2.out.setCell (p := ⟨w.heap.size, 0, none⟩) (Nat.le_refl _) _, .inr (.inl ⟨HR0.out, HW.out, rfl⟩)⟩
    · have he2 := (h4.block _ hl1).trans HE1.out
      have e1 := cell_of_one he2
      have e2 := free_of_one he2
      have HB2 : Hid (Below w.heap.size w w2) := Lib.hid (HB1.out.trans (h4.mono (Nat.le_of_lt hl1)))
      show Leaves _ _ _ _ _ _ _
      refine leaves_cons (f := 73) (args := #[.pointer (some ⟨w.heap.size, 0, none⟩)]) (by simp) (by simp [go_sem]) ?_
      refine (sdoor_dies w.heap.size _ b _ e1 e2).mono ?_
      rintro e u' w'' ⟨rfl, rfl, rfl⟩
      show Leaves _ _ _ _ [] .returning _
      refine ⟨_, res_err rfl rfl (cell_of_one (t := 36) (one_setCell he2)), HB2.out.setCell (p := ⟨w.heap.size, 0, none⟩) (Nat.le_refl _) _, .inr (.inr ⟨HR0.out, cc, nn, pp, b, h1, by omega, rfl, ?_⟩)⟩
      exact (Below.heap_setCell _ _ _ _ (show b ≠ w.heap.size by omega)).trans h3
  · have Q : (R != 0) = true := by simp [hR0]
    have HR0 : Hid (R ≠ 0) := Lib.hid hR0
    clear hR0
    go_wp2_with fail
    refine ⟨.iface 30 (.int .i64 R), res_err rfl rfl (cell_of_one (t := 36) (one_setCell HE1.out)), HB1.out.setCell (p := ⟨w.heap.size, 0, none⟩) (Nat.le_refl _) _, .inl ⟨?_, ?_⟩⟩
    · rw [HR.out]; exact HR0.out
    · rw [HR.out]
end Go.Proofs.YtpbkeamjdolpgaaGreatDoor
namespace Go.Proofs.YtpbkeamjdolpgaaGreatDoor
open Go.RowKit Go.Lib

def NamesEnd (l : List (List UInt8)) (w : World) (e : Ending) (w' : World) : Prop := ∃ v, e = .returned v ∧ w'.ownsRow w.heap.size 9 1 v l.length (l.map encStr) ∧ Below w.heap.size w w'
def sfreeR (l : List Nd) : List (List UInt8) := if checkR l = 0 then risL (missE (evX l)) else []
theorem ownsRow_low {w : World} {B B' : Nat} {t : TypeId} {s n : Nat} {v : Value} {xs : List Value} (h : w.ownsRow B t s v n xs) (hB : B' ≤ B) : w.ownsRow B' t s v n xs := by
  refine ⟨h.1, ?_⟩
  rcases h.2 with h1 | ⟨g, cap, cur, h1, h2, h3⟩
  · exact .inl h1
  · exact .inr ⟨g, cap, cur, h1, Nat.le_trans hB h2, h3⟩
set_option maxHeartbeats 4000000 in
set_option maxRecDepth 100000 in
theorem sfree_any (l : List Nd) (hs : wtL l < 2 ^ 38) (ok : Nat → Prop) (y : Option Addr) (c : Nat) (w : World) (hG : Gl w) (hrow : NdRow w ok l y) (hok : ∀ b, ok b → b < w.heap.size) :
    Calls Tryz.prog 40 #[.slice y l.length c] w (NamesEnd (sfreeR l) w) := by
  have c0 := check_any ok l (by omega) y c w hG hrow
  have HROW := Lib.hid hrow
  have HOK := Lib.hid hok
  clear hG hrow hok
  obtain ⟨R, hR⟩ : ∃ R, checkR l = R := ⟨_, rfl⟩
  rw [hR] at c0
  have HR := Lib.hid hR
  clear hR
  go_enter Tryz.func40, Tryz.ntmps40
  go_wp2_with fail
  refine c0.mono ?_
  clear c0
  rintro e w1 ⟨rfl, hb1⟩
  by_cases hR0 : R = 0
  · have Q : (R != 0) = false := by simp [hR0]
    have HR0 : Hid (checkR l = 0) := Lib.hid (HR.out.trans hR0)
    have cg := gone_any 77 true (fun Γ => wrong_free Γ) l hs (checkR_ok HR0.out) ok y c w1 (HROW.out.below hb1) (fun b hb => Nat.lt_of_lt_of_le (HOK.out b hb) hb1.size)
    have HB1 := Lib.hid hb1
    clear hR0 HR hb1
    go_wp2_with fail
    refine cg.mono ?_
    clear cg
    rintro e w2 (⟨wb, eb, cb, rfl, h1, h2, h3, h4, h5, h6⟩ | ⟨h0, -⟩)
    · have hl := missE_len (evX l)
      have hl2 := evSs_len l [none] 0
      have cr := rising_any eb _ (by unfold evX at hl; unfold evX; omega) w2 h3
      have HB2 : Hid (Below w.heap.size w w2) := Lib.hid (HB1.out.trans (h6.mono HB1.out.size))
      clear h3 h4 h5 h6 hl hl2
      go_wp2_with fail
      refine cr.mono ?_
      clear cr
      rintro e w3 ⟨v, rfl, hown, hb3⟩
      have HO := Lib.hid hown
      have HB3 : Hid (Below w.heap.size w w3) := Lib.hid (HB2.out.trans (hb3.mono HB2.out.size))
      have HSZ := Lib.hid HB2.out.size
      clear hown hb3 h1 h2
      go_wp2_with fail
      go_ret
      refine ⟨v, rfl, ?_, HB3.out⟩
      unfold sfreeR
      rw [if_pos HR0.out]
      exact ownsRow_low HO.out HSZ.out
    · cases h0
  · have Q : (R != 0) = true := by simp [hR0]
    have HR0 : Hid (R ≠ 0) := Lib.hid hR0
    have HB1 := Lib.hid hb1
    clear hR0 hb1
    go_wp2_with fail
    go_ret
    refine ⟨_, rfl, ?_, HB1.out⟩
    unfold sfreeR
    rw [if_neg (by rw [HR.out]; exact HR0.out)]
    exact World.ownsRow_nil _ _ _ _
end Go.Proofs.YtpbkeamjdolpgaaGreatDoor
namespace Go.Proofs.YtpbkeamjdolpgaaGreatDoor
open Go.RowKit Go.Lib Go.Extern.Stop Go.Stop Go.Extern

set_option maxHeartbeats 4000000 in
set_option maxRecDepth 100000 in
theorem stold_hit (c p : Int) (T : ByteArray) (b1 b2 : Nat) (w : World) (hE : GlE w) (h1 : w.heap[b1]? = some (.cells #[.int .i64 c, .int .i64 p, .string T] 61 (0, 0))) (h2 : w.heap[b2]? = some (.cells #[.int .i64 c, .int .i64 p, .string T] 61 (0, 0))) :
    Calls Tryz.prog 39 #[.iface 23 (.pointer (some ⟨b1, 0, none⟩)), .pointer (some ⟨b2, 0, none⟩)] w fun e w' => e = .returned (.bool true) ∧ Below w.heap.size w w' := by
  have hb0 : Below w.heap.size w (w.alloc (.cells #[.pointer none] 23)) := (Below.refl _ _).alloc (Nat.le_refl _) _
  have cA := as_hit2 ⟨b1, 0, none⟩ ⟨w.heap.size, 0, none⟩ (.pointer none) (w.alloc (.cells #[.pointer none] 23)).drew (hE.below hb0.drew) (by simp) (by simp)
  have hl1 : b1 < w.heap.size := (Array.getElem?_eq_some_iff.1 h1).1
  have hl2 : b2 < w.heap.size := (Array.getElem?_eq_some_iff.1 h2).1
  have hk : ∀ w3 : World, (∀ k, k ≠ w.heap.size → k < (w.alloc (.cells #[.pointer none] 23)).drew.heap.size → w3.heap[k]? = (w.alloc (.cells #[.pointer none] 23)).drew.heap[k]?) →
      (w3.cell? ⟨b1, 0, none⟩ = some (.int .i64 c) ∧ w3.cell? ⟨b1, 1, none⟩ = some (.int .i64 p) ∧ w3.cell? ⟨b1, 2, none⟩ = some (.string T)) ∧
      (w3.cell? ⟨b2, 0, none⟩ = some (.int .i64 c) ∧ w3.cell? ⟨b2, 1, none⟩ = some (.int .i64 p) ∧ w3.cell? ⟨b2, 2, none⟩ = some (.string T)) := by
    intro w3 h
    have g1 := h b1 (by omega) (by simp; omega)
    have g2 := h b2 (by omega) (by simp; omega)
    rw [heap_drew, Below.heap_alloc _ _ _ hl1, h1] at g1
    rw [heap_drew, Below.heap_alloc _ _ _ hl2, h2] at g2
    exact ⟨⟨cell_of_row w3 b1 0 _ _ _ g1, cell_of_row w3 b1 1 _ _ _ g1, cell_of_row w3 b1 2 _ _ _ g1⟩, ⟨cell_of_row w3 b2 0 _ _ _ g2, cell_of_row w3 b2 1 _ _ _ g2, cell_of_row w3 b2 2 _ _ _ g2⟩⟩
  clear h1 h2 hE
  go_enter Tryz.func39, Tryz.ntmps39
  go_wp2_with fail
  go_region_with (first | (go_at_call 61; (with_reducible refine cA.mono ?_); rintro e w3 ⟨rfl, ha1, ha2, ha3⟩; obtain ⟨⟨r0, r1, r2⟩, ⟨s0, s1, s2⟩⟩ := hk w3 ha3; clear ha3) | (go_at_call 62; refine (is_fault b1 c _ (by assumption)).mono ?_; rintro e w4 ⟨rfl, rfl⟩))
  all_goals go_wp2
  all_goals go_ret
  all_goals exact ⟨rfl, hb0.drew.trans (by assumption)⟩
end Go.Proofs.YtpbkeamjdolpgaaGreatDoor
namespace Go.Proofs.YtpbkeamjdolpgaaGreatDoor

end Go.Proofs.YtpbkeamjdolpgaaGreatDoor
namespace Go.Proofs.YtpbkeamjdolpgaaGreatDoor
open Go.RowKit Go.Lib Go.Shelf Go.Sort

end Go.Proofs.YtpbkeamjdolpgaaGreatDoor
namespace Go.Proofs.YtpbkeamjdolpgaaGreatDoor

def TkOk (ts : List Tk) : Prop := ∀ t ∈ ts, (t.1 = 0 → resv t.2.1 = false → plainR t.2.1 = true) ∧ (t.1 = 1 → numR t.2.1 = true) ∧ t.2.1.length ≤ 65536
theorem name_of_word {s : List UInt8} (h : wordL s = (0, s.length)) (h0 : 0 < s.length) : nameL s = s.length := by
  unfold wordL at h
  by_cases h1 : 0 < nameL s
  · rw [if_pos h1] at h
    exact (Prod.mk.injEq _ _ _ _ ▸ h).2
  · rw [if_neg h1] at h
    by_cases h2 : 0 < numL s
    · rw [if_pos h2] at h; cases h
    · rw [if_neg h2] at h
      by_cases h3 : 0 < signL s
      · rw [if_pos h3] at h; cases h
      · rw [if_neg h3] at h
        have := (Prod.mk.injEq _ _ _ _ ▸ h : _ ∧ _).2
        omega
theorem num_of_word {s : List UInt8} (h : wordL s = (1, s.length)) (h0 : 0 < s.length) (hs : skipL s = 0) (hl : s.length ≤ 65536) : numR s = true := by
  have h1 : Sc (s ++ []) ((1, s) :: []) := Sc.word h (List.length_pos_iff.1 h0) hs (fun c hc => by cases hc) Sc.nil
  rw [List.append_nil] at h1
  obtain ⟨us, h2, h3⟩ := h1.all hl (by simp)
  unfold numR
  rw [h2]
  have hl : us.length = 1 := by simpa using congrArg List.length h3
  obtain ⟨t, rfl⟩ := List.length_eq_one_iff.1 hl
  · have h4 : (t.1, t.2.1) = (1, s) := by simpa [kt] using h3
    have e1 : t.1 = 1 := congrArg Prod.fst h4
    have e2 : t.2.1 = s := congrArg Prod.snd h4
    show (decide (t.1 = 1) && decide (t.2.1 = s)) = true
    rw [e1, e2]
    simp
theorem tkOk_of {s : List UInt8} {ts : List Tk} (h : tokensL s = .ok ts) : TkOk ts := by
  intro t ht
  have hlen : t.2.1.length ≤ 65536 := by
    have h1 : s.length ≤ 65536 := by
      unfold tokensL at h
      split at h
      · cases h
      · omega
    obtain ⟨i, hi, rfl⟩ := List.mem_iff_getElem.1 ht
    have := tokensL_at s ts h i _ (List.getElem?_eq_getElem hi)
    omega
  have hw : wordL t.2.1 = (t.1, t.2.1.length) ∧ 0 < t.2.1.length ∧ skipL t.2.1 = 0 := by
    unfold tokensL at h
    split at h
    · cases h
    · exact toksL_ok _ _ _ _ _ (skip_idem false s) h t ht
  refine ⟨fun h0 hr => ?_, fun h1 => num_of_word (by rw [← h1]; exact hw.1) hw.2.1 hw.2.2 hlen, hlen⟩
  have hn := name_of_word (by rw [← h0]; exact hw.1) hw.2.1
  unfold plainR
  rw [hn, hr]
  simp
  exact hw.2.1

theorem ex_num {s : List UInt8} {p : Int} (h : numR s = true) : exR (.mk 9 s [] p) = true := by rw [exR_eq, if_pos rfl, h]; rfl
theorem ex_name {s : List UInt8} {p : Int} (h : plainR s = true) : exR (.mk 10 s [] p) = true := by rw [exR_eq, if_neg (by decide), if_pos rfl, h]; rfl
theorem ex_list {l : List Nd} {p : Int} (h : ∀ x ∈ l, exR x = true) : exR (.mk 11 [] l p) = true := by
  rw [exR_eq, if_neg (by decide), if_neg (by decide), if_pos rfl, exsR_of h]
  rfl
theorem ex_one {s : List UInt8} {x : Nd} {p : Int} (h : s = [45] ∨ s = [33]) (hx : exR x = true) : exR (.mk 12 s [x] p) = true := by
  rw [exR_eq, if_neg (by decide), if_neg (by decide), if_neg (by decide), if_pos rfl, if_pos (show [x].length = 1 from rfl), exsR_of (l := [x]) (by simpa using hx)]
  rcases h with rfl | rfl <;> rfl
theorem ex_two {s : List UInt8} {x y : Nd} {p : Int} (h : 0 < levelS s) (hx : exR x = true) (hy : exR y = true) : exR (.mk 12 s [x, y] p) = true := by
  rw [exR_eq, if_neg (by decide), if_neg (by decide), if_neg (by decide), if_pos rfl, if_neg (by simp), exsR_of (l := [x, y]) (by simp [hx, hy])]
  simp [h]
theorem part_args {l : List Nd} {p : Int} (h : ∀ x ∈ l, exR x = true) : partR (.mk 8 [] l p) = true := by
  rw [partR, exsR_of h]
  rfl
theorem part_block {l : List Nd} {p : Int} (h : ∀ x ∈ l, stR x = true) : partR (.mk 0 [] l p) = true := by
  rw [partR, stsR_of h]
  rfl
theorem parsR_of : ∀ {l : List Nd}, (∀ x ∈ l, x.kind = 10 ∧ exR x = true) → parsR l = true
  | [], _ => rfl
  | x :: r, h => by
    rw [parsR, (h x (by simp)).1, (h x (by simp)).2, parsR_of fun y hy => h y (by simp [hy])]
    rfl
theorem part_params {l : List Nd} {p : Int} (h : ∀ x ∈ l, x.kind = 10 ∧ exR x = true) : partR (.mk 4 [] l p) = true := by
  rw [partR, parsR_of h]
  rfl
theorem sh_nil : shR [] [] = true := by rw [shR]
theorem sh_ex {x : Nd} {ws : List Int} {r : List Nd} (h : exR x = true) (hr : shR ws r = true) : shR (-1 :: ws) (x :: r) = true := by
  rw [shR, h, hr]
  rfl
theorem sh_part {w k : Int} {n : List UInt8} {l : List Nd} {p : Int} {ws : List Int} {r : List Nd} (hk : k = w) (h0 : ¬ w < 0) (h : partR (.mk k n l p) = true) (hr : shR ws r = true) : shR (w :: ws) (.mk k n l p :: r) = true := by
  rw [shR, h, hr, if_neg h0]
  show (decide (k = w) && true && true) = true
  rw [hk]
  simp
theorem ex_apply {s : List UInt8} {l : List Nd} {p q : Int} (h : plainR s = true) (hl : ∀ x ∈ l, exR x = true) : exR (.mk 13 s [.mk 8 [] l q] p) = true := by
  rw [exR_eq, if_neg (by decide), if_neg (by decide), if_neg (by decide), if_neg (by decide), if_pos rfl, h, sh_part rfl (by decide) (part_args hl) sh_nil]
  rfl
theorem ex_index {x y : Nd} {p : Int} (hx : exR x = true) (hy : exR y = true) : exR (.mk 14 [] [x, y] p) = true := by
  rw [exR_eq, if_neg (by decide), if_neg (by decide), if_neg (by decide), if_neg (by decide), if_neg (by decide), if_pos rfl, exsR_of (l := [x, y]) (by simp [hx, hy])]
  rfl
theorem ex_pick {x y z : Nd} {p : Int} (hx : exR x = true) (hy : exR y = true) (hz : exR z = true) : exR (.mk 15 [] [x, y, z] p) = true := by
  rw [exR_eq, if_neg (by decide), if_neg (by decide), if_neg (by decide), if_neg (by decide), if_neg (by decide), if_neg (by decide), if_pos rfl, exsR_of (l := [x, y, z]) (by simp [hx, hy, hz])]
  rfl

def Rt (P : Nd → Prop) (p : Nat) (R : Res Nd) : Prop := ∀ x q, R = .ok x q → 65537 * p + wtN x ≤ 65537 * q ∧ P x
def Ex (x : Nd) : Prop := exR x = true
theorem wtL_snoc (l : List Nd) (x : Nd) : wtL (l ++ [x]) = wtL l + wtN x := by
  rw [wtL_app]
  show _ + (wtN x + 0) = _
  omega
theorem wtL_one (x : Nd) : wtL [x] = wtN x := rfl
theorem wtL_two (x y : Nd) : wtL [x, y] = wtN x + wtN y := rfl
theorem wtL_three (x y z : Nd) : wtL [x, y, z] = wtN x + (wtN y + wtN z) := rfl
section
variable {ts : List Tk} {L : Nat}
theorem text_le (hT : TkOk ts) (p : Nat) : (textT ts p).length ≤ 65536 := by
  unfold textT
  cases hp : ts[p]? with
  | none => exact Nat.zero_le _
  | some t => exact (hT t (List.mem_of_getElem? hp)).2.2
theorem rt_name (hT : TkOk ts) {p q : Nat} {s : List UInt8} (h : nameP ts p = .ok s q) : q = p + 1 ∧ s.length ≤ 65536 ∧ plainR s = true := by
  unfold nameP at h
  split at h
  · rename_i hn
    cases h
    refine ⟨rfl, text_le hT p, ?_⟩
    unfold namedT at hn
    simp only [Bool.and_eq_true, decide_eq_true_eq, Bool.not_eq_true'] at hn
    obtain ⟨h1, h2⟩ := hn
    unfold kindT at h1
    unfold textT at h2 ⊢
    cases hp : ts[p]? with
    | none => rw [hp] at h1; simp at h1
    | some t =>
      rw [hp] at h1 h2
      exact (hT t (List.mem_of_getElem? hp)).1 (by simpa using h1) h2
  · cases h
variable (hT : TkOk ts)
include hT
theorem rt_nameN (p : Nat) : Rt (fun x => x.kind = 10 ∧ exR x = true) p (nameN ts L p) := by
  intro x q h
  obtain ⟨s, r, h1, h2⟩ := bind_ok h
  obtain ⟨rfl, h3, h4⟩ := rt_name hT h1
  cases h2
  rw [wtN_mk]
  refine ⟨?_, rfl, ex_name h4⟩
  show 65537 * p + (0 + s.length + 1) ≤ 65537 * (p + 1)
  omega
omit hT in
theorem rt_rowM {P : Nd → Prop} {one : Nat → Res Nd} (h1 : ∀ p, Rt P p (one p)) {e : List UInt8} : ∀ (f : Nat) (acc : List Nd) (q : Nat) (l : List Nd) (r : Nat), rowM ts L one f e acc q = .ok l r → (∀ x ∈ acc, P x) → 65537 * q + wtL l + 1 ≤ 65537 * r + wtL acc ∧ ∀ x ∈ l, P x
  | 0, _, _, _, _, h, _ => by cases h
  | f + 1, acc, q, l, r, h, ha => by
    unfold rowM at h
    split at h
    · cases h; exact ⟨by omega, ha⟩
    · obtain ⟨_, r1, a1, h⟩ := bind_ok h
      obtain ⟨x, r2, a2, h⟩ := bind_ok h
      have := take_ok a1
      have h2 := h1 _ x r2 a2
      have h3 := rt_rowM h1 f (acc ++ [x]) r2 l r h (fun y hy => by
        rcases List.mem_append.1 hy with hy | hy
        · exact ha y hy
        · rw [List.mem_singleton.1 hy]; exact h2.2)
      rw [wtL_snoc] at h3
      exact ⟨by omega, h3.2⟩
omit hT in
theorem rt_rowG {P : Nd → Prop} {one : Nat → Res Nd} (h1 : ∀ p, Rt P p (one p)) {e : List UInt8} {f p : Nat} {l : List Nd} {r : Nat} (h : rowG ts L one f e p = .ok l r) : 65537 * p + wtL l + 1 ≤ 65537 * r ∧ ∀ x ∈ l, P x := by
  unfold rowG at h
  split at h
  · cases h
    refine ⟨?_, by simp⟩
    show 65537 * p + 0 + 1 ≤ 65537 * (p + 1)
    omega
  · obtain ⟨x, r2, a2, h⟩ := bind_ok h
    have h2 := h1 _ x r2 a2
    have h3 := rt_rowM h1 f [x] r2 l r h (by simpa using h2.2)
    rw [wtL_one] at h3
    exact ⟨by omega, h3.2⟩
theorem rt_params (f p : Nat) : Rt (fun x => ∃ l q, x = .mk 4 [] l q ∧ partR (.mk 4 [] l q) = true) p (paramsP ts L f p) := by
  intro x q h
  obtain ⟨_, r1, a1, h⟩ := bind_ok h
  obtain ⟨l, r2, a2, h⟩ := bind_ok h
  have := take_ok a1
  have h2 := rt_rowG (rt_nameN hT) a2
  cases h
  rw [wtN_mk]
  refine ⟨?_, l, _, rfl, part_params h2.2⟩
  have := h2.1
  simp only [List.length_nil]
  omega
variable {ex : Nat → Res Nd} (hx : ∀ p, Rt Ex p (ex p))
include hx
omit hT in
theorem rt_args (f p : Nat) : Rt (fun x => ∃ l q, x = .mk 8 [] l q ∧ ∀ y ∈ l, exR y = true) p (argsO ts L ex f p) := by
  intro x q h
  obtain ⟨_, r1, a1, h⟩ := bind_ok h
  obtain ⟨l, r2, a2, h⟩ := bind_ok h
  have := take_ok a1
  have h2 := rt_rowG hx a2
  cases h
  rw [wtN_mk]
  refine ⟨?_, l, _, rfl, h2.2⟩
  have := h2.1
  simp only [List.length_nil]
  omega
theorem rt_atom (f p : Nat) : Rt Ex p (atomO ts L ex f p) := by
  intro x q h
  unfold atomO at h
  split at h
  · obtain ⟨y, r1, a1, h⟩ := bind_ok h
    obtain ⟨_, r2, a2, h⟩ := bind_ok h
    have := take_ok a2
    have h2 := hx _ y r1 a1
    cases h
    exact ⟨by omega, h2.2⟩
  · split at h
    · obtain ⟨l, r1, a1, h⟩ := bind_ok h
      have h2 := rt_rowG hx a1
      cases h
      rw [wtN_mk]
      refine ⟨?_, ex_list h2.2⟩
      have := h2.1
      simp only [List.length_nil]
      omega
    · split at h
      · rename_i hk
        cases h
        rw [wtN_mk]
        have := text_le hT p
        refine ⟨?_, ex_num ?_⟩
        · show 65537 * p + (0 + (textT ts p).length + 1) ≤ 65537 * (p + 1)
          omega
        · unfold kindT at hk
          unfold textT
          cases hp : ts[p]? with
          | none => rw [hp] at hk; simp at hk
          | some t =>
            rw [hp] at hk
            exact (hT t (List.mem_of_getElem? hp)).2.1 (by simp at hk; omega)
      · obtain ⟨s, r1, a1, h⟩ := bind_ok h
        obtain ⟨rfl, h3, h4⟩ := rt_name hT a1
        split at h
        · obtain ⟨a, r2, a2, h⟩ := bind_ok h
          obtain ⟨h5, l, q1, rfl, h6⟩ := rt_args hx f _ a r2 a2
          cases h
          rw [wtN_mk, wtL_one]
          exact ⟨by omega, ex_apply h4 h6⟩
        · cases h
          rw [wtN_mk]
          refine ⟨?_, ex_name h4⟩
          show 65537 * p + (0 + s.length + 1) ≤ 65537 * (p + 1)
          omega
omit hT in
theorem rt_index : ∀ (f : Nat) (x : Nd) (q : Nat) (y : Nd) (r : Nat), indexL ts L ex f x q = .ok y r → exR x = true → 65537 * q + wtN y ≤ 65537 * r + wtN x ∧ exR y = true
  | 0, _, _, _, _, h, _ => by cases h
  | f + 1, x, q, y, r, h, h0 => by
    unfold indexL at h
    split at h
    · obtain ⟨z, r1, a1, h⟩ := bind_ok h
      obtain ⟨_, r2, a2, h⟩ := bind_ok h
      have := take_ok a2
      have h2 := hx _ z r1 a1
      have h3 := rt_index f _ r2 y r h (ex_index h0 h2.2)
      rw [wtN_mk, wtL_two] at h3
      simp only [List.length_nil] at h3
      exact ⟨by omega, h3.2⟩
    · cases h; exact ⟨by omega, h0⟩
theorem rt_unary (F : Nat) : ∀ (f p : Nat), Rt Ex p (unaryL ts L ex F f p)
  | 0, _ => fun _ _ h => by cases h
  | f + 1, p => by
    intro x q h
    unfold unaryL at h
    split at h
    · rename_i hs
      obtain ⟨y, r1, a1, h⟩ := bind_ok h
      have h2 := rt_unary F f _ y r1 a1
      cases h
      rw [wtN_mk, wtL_one]
      have := text_le hT p
      refine ⟨by omega, ex_one ?_ h2.2⟩
      unfold isT at hs
      simp only [Bool.or_eq_true, Bool.and_eq_true, decide_eq_true_eq] at hs
      rcases hs with hs | hs
      · exact .inl hs.1
      · exact .inr hs.1
    · obtain ⟨y, r1, a1, h⟩ := bind_ok h
      have h2 := rt_atom hT hx F p y r1 a1
      have h3 := rt_index hx F y r1 x q h h2.2
      exact ⟨by omega, h3.2⟩
omit hT hx in
theorem any_level {p k : Nat} (hk : k < 5) (h : anyT ts p (signsK k) = true) : 0 < levelS (textT ts p) := by
  obtain ⟨s, h1, h2⟩ := List.any_eq_true.1 h
  unfold isT at h2
  simp only [Bool.and_eq_true, decide_eq_true_eq] at h2
  rw [h2.1]
  clear h h2
  have e : ∀ k, k < 5 → ∀ s ∈ signsK k, 0 < levelS s := by decide
  exact e k hk s h1
omit hx in
theorem rt_levelM {tight : Nat → Res Nd} (ht : ∀ p, Rt Ex p (tight p)) (k : Nat) (hk : k < 5) : ∀ (f : Nat) (x : Nd) (q : Nat) (y : Nd) (r : Nat), levelM ts L tight k f x q = .ok y r → exR x = true → 65537 * q + wtN y ≤ 65537 * r + wtN x ∧ exR y = true
  | 0, _, _, _, _, h, _ => by cases h
  | f + 1, x, q, y, r, h, h0 => by
    unfold levelM at h
    split at h
    · rename_i hs
      obtain ⟨z, r1, a1, h⟩ := bind_ok h
      have h2 := ht _ z r1 a1
      have h3 := text_le hT q
      have h4 := ex_two (p := (placeT ts L q : Int)) (any_level hk hs) h0 h2.2
      split at h
      · cases h
        rw [wtN_mk, wtL_two]
        exact ⟨by omega, h4⟩
      · have h5 := rt_levelM ht k hk f _ r1 y r h h4
        rw [wtN_mk, wtL_two] at h5
        exact ⟨by omega, h5.2⟩
    · cases h; exact ⟨by omega, h0⟩
theorem rt_lev (f : Nat) : ∀ (d p : Nat), Rt Ex p (levO ts L ex f d p)
  | 0, p => rt_unary hT hx f f p
  | d + 1, p => by
    intro x q h
    obtain ⟨y, r1, a1, h⟩ := bind_ok h
    have h2 := rt_lev f d p y r1 a1
    have h3 := rt_levelM hT (rt_lev f d) _ (by omega) f y r1 x q h h2.2
    exact ⟨by omega, h3.2⟩
theorem rt_exprO (f p : Nat) : Rt Ex p (exprO ts L ex f p) := by
  intro x q h
  unfold exprO at h
  obtain ⟨y, r1, a1, h⟩ := bind_ok h
  have h1 := rt_lev hT hx f 5 p y r1 a1
  split at h
  · obtain ⟨z, r2, a2, h⟩ := bind_ok h
    obtain ⟨_, r3, a3, h⟩ := bind_ok h
    obtain ⟨u, r4, a4, h⟩ := bind_ok h
    have h2 := hx _ z r2 a2
    have := take_ok a3
    have h3 := hx _ u r4 a4
    cases h
    rw [wtN_mk, wtL_three]
    refine ⟨?_, ex_pick h1.2 h2.2 h3.2⟩
    simp only [List.length_nil]
    omega
  · cases h; exact h1
omit hx in
theorem rt_expr : ∀ (f p : Nat), Rt Ex p (exprP ts L f p)
  | 0, _ => fun _ _ h => by cases h
  | f + 1, p => rt_exprO hT (rt_expr f) f p
variable {st : Nat → Res Nd} (hs : ∀ p, Rt (fun x => stR x = true) p (st p))
include hs
omit hx hT in
theorem rt_blockL : ∀ (f : Nat) (acc : List Nd) (q : Nat) (l : List Nd) (r : Nat), blockL ts st f acc q = .ok l r → (∀ x ∈ acc, stR x = true) → 65537 * q + wtL l + 1 ≤ 65537 * r + wtL acc ∧ ∀ x ∈ l, stR x = true
  | 0, _, _, _, _, h, _ => by cases h
  | f + 1, acc, q, l, r, h, ha => by
    unfold blockL at h
    split at h
    · cases h; exact ⟨by omega, ha⟩
    · obtain ⟨x, r2, a2, h⟩ := bind_ok h
      have h2 := hs _ x r2 a2
      have h3 := rt_blockL f (acc ++ [x]) r2 l r h (fun y hy => by
        rcases List.mem_append.1 hy with hy | hy
        · exact ha y hy
        · rw [List.mem_singleton.1 hy]; exact h2.2)
      rw [wtL_snoc] at h3
      exact ⟨by omega, h3.2⟩
omit hx hT in
theorem rt_block (f p : Nat) : Rt (fun x => ∃ l q, x = .mk 0 [] l q ∧ partR (.mk 0 [] l q) = true) p (blockO ts L st f p) := by
  intro x q h
  obtain ⟨_, r1, a1, h⟩ := bind_ok h
  obtain ⟨l, r2, a2, h⟩ := bind_ok h
  have := take_ok a1
  have h2 := rt_blockL hs f [] r1 l r2 a2 (by simp)
  have e : wtL ([] : List Nd) = 0 := rfl
  cases h
  rw [wtN_mk]
  refine ⟨?_, l, _, rfl, part_block h2.2⟩
  simp only [List.length_nil]
  omega
omit hs hx hT in
theorem st_eq (k : Int) {s : List UInt8} {l : List Nd} {p : Int} (hk : k ≠ 6) (h : plainR s = true) (ws : List Int) (e : (if k = 1 then shR [-1] l else if k = 2 then shR [4, 0] l else if k = 3 then shR [4, -1] l else if k = 5 then shR [-1, 0] l else if k = 7 then shR (if l.length = 1 then [8] else [8, 0]) l else false) = shR ws l) (hl : shR ws l = true) : stR (.mk k s l p) = true := by
  rw [stR_eq, if_neg hk, h, e, hl]
  rfl
theorem rt_stmtO (f p : Nat) : Rt (fun x => stR x = true) p (stmtO ts L ex st f p) := by
  intro x q h
  unfold stmtO at h
  split at h
  · obtain ⟨s, r1, a1, h⟩ := bind_ok h
    obtain ⟨y, r2, a2, h⟩ := bind_ok h
    obtain ⟨z, r3, a3, h⟩ := bind_ok h
    obtain ⟨rfl, k1, k2⟩ := rt_name hT a1
    obtain ⟨h1, l, q1, rfl, h2⟩ := rt_params hT f _ y r2 a2
    obtain ⟨h3, b, q2, rfl, h4⟩ := rt_block hs f _ z r3 a3
    cases h
    rw [wtN_mk, wtL_two]
    exact ⟨by omega, st_eq 2 (by decide) k2 [4, 0] rfl (sh_part rfl (by decide) h2 (sh_part rfl (by decide) h4 sh_nil))⟩
  · split at h
    · obtain ⟨s, r1, a1, h⟩ := bind_ok h
      obtain ⟨y, r2, a2, h⟩ := bind_ok h
      obtain ⟨_, r3, a3, h⟩ := bind_ok h
      obtain ⟨z, r4, a4, h⟩ := bind_ok h
      obtain ⟨_, r5, a5, h⟩ := bind_ok h
      obtain ⟨rfl, k1, k2⟩ := rt_name hT a1
      obtain ⟨h1, l, q1, rfl, h2⟩ := rt_params hT f _ y r2 a2
      have := take_ok a3
      have h3 := hx _ z r4 a4
      have := take_ok a5
      cases h
      rw [wtN_mk, wtL_two]
      exact ⟨by omega, st_eq 3 (by decide) k2 [4, -1] rfl (sh_part rfl (by decide) h2 (sh_ex h3.2 sh_nil))⟩
    · split at h
      · obtain ⟨_, r1, a1, h⟩ := bind_ok h
        obtain ⟨s, r2, a2, h⟩ := bind_ok h
        obtain ⟨_, r3, a3, h⟩ := bind_ok h
        obtain ⟨y, r4, a4, h⟩ := bind_ok h
        obtain ⟨_, r5, a5, h⟩ := bind_ok h
        obtain ⟨z, r6, a6, h⟩ := bind_ok h
        have := take_ok a1
        obtain ⟨rfl, k1, k2⟩ := rt_name hT a2
        have := take_ok a3
        have h3 := hx _ y r4 a4
        have := take_ok a5
        obtain ⟨h5, b, q2, rfl, h4⟩ := rt_block hs f _ z r6 a6
        cases h
        rw [wtN_mk, wtL_two]
        exact ⟨by omega, st_eq 5 (by decide) k2 [-1, 0] rfl (sh_ex h3.2 (sh_part rfl (by decide) h4 sh_nil))⟩
      · split at h
        · obtain ⟨_, r1, a1, h⟩ := bind_ok h
          obtain ⟨y, r2, a2, h⟩ := bind_ok h
          obtain ⟨_, r3, a3, h⟩ := bind_ok h
          obtain ⟨z, r4, a4, h⟩ := bind_ok h
          have := take_ok a1
          have h3 := hx _ y r2 a2
          have := take_ok a3
          obtain ⟨h5, b, q2, rfl, h4⟩ := rt_block hs f _ z r4 a4
          split at h
          · obtain ⟨u, r5, a5, h⟩ := bind_ok h
            obtain ⟨h6, b', q3, rfl, h7⟩ := rt_block hs f _ u r5 a5
            cases h
            rw [wtN_mk, wtL_three]
            refine ⟨?_, ?_⟩
            · simp only [List.length_nil]
              omega
            · show stR _ = true
              rw [stR_eq, if_pos rfl, if_neg (by simp), sh_ex h3.2 (sh_part rfl (by decide) h4 (sh_part rfl (by decide) h7 sh_nil))]
              rfl
          · cases h
            rw [wtN_mk, wtL_two]
            refine ⟨?_, ?_⟩
            · simp only [List.length_nil]
              omega
            · show stR _ = true
              rw [stR_eq, if_pos rfl, if_pos (show [y, Nd.mk 0 [] b q2].length = 2 from rfl), sh_ex h3.2 (sh_part rfl (by decide) h4 sh_nil)]
              rfl
        · obtain ⟨s, r1, a1, h⟩ := bind_ok h
          obtain ⟨rfl, k1, k2⟩ := rt_name hT a1
          split at h
          · obtain ⟨y, r2, a2, h⟩ := bind_ok h
            obtain ⟨_, r3, a3, h⟩ := bind_ok h
            have h3 := hx _ y r2 a2
            have := take_ok a3
            cases h
            rw [wtN_mk, wtL_one]
            exact ⟨by omega, st_eq 1 (by decide) k2 [-1] rfl (sh_ex h3.2 sh_nil)⟩
          · obtain ⟨y, r2, a2, h⟩ := bind_ok h
            obtain ⟨h5, l, q1, rfl, h6⟩ := rt_args hx f _ y r2 a2
            have h7 := part_args (p := q1) h6
            split at h
            · obtain ⟨z, r3, a3, h⟩ := bind_ok h
              obtain ⟨h8, b, q2, rfl, h4⟩ := rt_block hs f _ z r3 a3
              cases h
              rw [wtN_mk, wtL_two]
              exact ⟨by omega, st_eq 7 (by decide) k2 [8, 0] rfl (sh_part rfl (by decide) h7 (sh_part rfl (by decide) h4 sh_nil))⟩
            · obtain ⟨_, r3, a3, h⟩ := bind_ok h
              have := take_ok a3
              cases h
              rw [wtN_mk, wtL_one]
              exact ⟨by omega, st_eq 7 (by decide) k2 [8] rfl (sh_part rfl (by decide) h7 sh_nil)⟩
omit hx hs in
theorem rt_stmt (F : Nat) : ∀ (f p : Nat), Rt (fun x => stR x = true) p (stmtP ts L F f p)
  | 0, _ => fun _ _ h => by cases h
  | f + 1, p => rt_stmtO hT (rt_expr hT F) (rt_stmt F f) F p
omit hx hs in
theorem rt_stmts (F : Nat) : ∀ (f : Nat) (acc : List Nd) (q : Nat) (l : List Nd) (r : Nat), stmtsP ts L F f acc q = .ok l r → (∀ x ∈ acc, stR x = true) → 65537 * q + wtL l ≤ 65537 * r + wtL acc ∧ ∀ x ∈ l, stR x = true
  | 0, _, _, _, _, h, _ => by cases h
  | f + 1, acc, q, l, r, h, ha => by
    unfold stmtsP at h
    split at h
    · cases h; exact ⟨by omega, ha⟩
    · obtain ⟨x, r2, a2, h⟩ := bind_ok h
      have h2 := rt_stmt hT F F q x r2 a2
      have h3 := rt_stmts F f (acc ++ [x]) r2 l r h (fun y hy => by
        rcases List.mem_append.1 hy with hy | hy
        · exact ha y hy
        · rw [List.mem_singleton.1 hy]; exact h2.2)
      rw [wtL_snoc] at h3
      exact ⟨by omega, h3.2⟩
end
theorem parse_right {s : List UInt8} {l : List Nd} (h : parseR s = .ok l) : checkR l = 0 ∧ wtL l ≤ 268500000 := by
  unfold parseR at h
  cases ht : tokensL s with
  | error f => rw [ht] at h; cases h
  | ok ts =>
    rw [ht] at h
    have h : parseT ts s.length = .ok l := h
    unfold parseT at h
    have hn := tokensL_len _ _ ht
    have hT := tkOk_of ht
    cases hp : stmtsP ts s.length 8192 8192 [] 0 with
    | out => rw [hp] at h; cases h
    | bad q => rw [hp] at h; cases h
    | ok m q =>
      rw [hp] at h
      have hg := gd_stmts (ts := ts) (L := s.length) (F := 8192) (by omega) 8192 [] 0 (Nat.zero_le _) (by omega)
      rw [hp] at hg
      have hq : q ≤ ts.length := hg.2
      have h2 := rt_stmts hT 8192 8192 [] 0 m q hp (by simp)
      have e : wtL ([] : List Nd) = 0 := rfl
      dsimp only at h
      cases hd : deepL m 1 with
      | some x => rw [hd] at h; cases h
      | none =>
        rw [hd] at h
        cases h
        refine ⟨?_, by omega⟩
        unfold checkR
        rw [hd, stsR_of h2.2]
        rfl
end Go.Proofs.YtpbkeamjdolpgaaGreatDoor
namespace Go.Proofs.YtpbkeamjdolpgaaGreatDoor
open Go.RowKit Go.Lib Go.Shelf Go.Sort

end Go.Proofs.YtpbkeamjdolpgaaGreatDoor
namespace Go.Proofs.YtpbkeamjdolpgaaGreatDoor
open Go.ChangeShapes Go.WideShapes Go.RowKit Go.Lib Go.ChangeAt Go.Deep

instance : Inhabited Nd := ⟨.mk 0 [] [] 0⟩
end Go.Proofs.YtpbkeamjdolpgaaGreatDoor
namespace Go.Proofs.YtpbkeamjdolpgaaGreatDoor
open Go.RowKit Go.Lib

theorem names_at {w : World} {B : Nat} {v : Value} {l : List (List UInt8)} (h : w.ownsRow B 9 1 v l.length (l.map encStr)) : ∃ a c, v = .slice a l.length c ∧ ∀ i x, l[i]? = some x → ∃ g, a = some ⟨g, 0, none⟩ ∧ w.cell? ⟨g, i, none⟩ = some (.string ⟨x.toArray⟩) := by
  rcases h.2 with ⟨h1, h2⟩ | ⟨g, cap, cur, h1, _⟩
  · have hl : l = [] := List.length_eq_zero_iff.1 h2
    subst hl
    exact ⟨none, 0, h1, fun i x hx => by simp at hx⟩
  · refine ⟨_, _, h1, fun i x hx => ⟨g, rfl, ?_⟩⟩
    have := h.cells (g := g) (by rw [h1]; rfl) i (encStr x) (by simp [hx])
    simpa [Addr.add_lit, encStr] using this
end Go.Proofs.YtpbkeamjdolpgaaGreatDoor
namespace Go.Proofs.YtpbkeamjdolpgaaGreatDoor
open Go.RowKit Go.Lib

def wkL : List Nd := [.mk 1 [97] [.mk 10 [98] [] 4] 0]
theorem wkL_check : checkR wkL = 0 := by kernel_rfl
theorem wkL_wrong : wrongE (evX wkL) = some (280, [98], 4) := by kernel_rfl
theorem wkL_free : sfreeR wkL = [[98]] := by kernel_rfl
set_option maxHeartbeats 4000000 in
set_option maxRecDepth 100000 in
theorem swakes_any (w : World) (hG : Gl w) (hE : GlE w) : Calls Tryz.prog 15 #[] w fun e w' => e = .returned (.bool true) ∧ Below w.heap.size w w' := by
  have hz := World.size_alloc w (.cells #[.int .i64 10, .string ⟨#[98]⟩, .slice none 0 0, .int .i64 4] 53)
  have hA1 : Below w.heap.size w (w.alloc (.cells #[.int .i64 10, .string ⟨#[98]⟩, .slice none 0 0, .int .i64 4] 53)) := (Below.refl _ _).alloc (Nat.le_refl _) _
  have hA : Below w.heap.size w ((w.alloc (.cells #[.int .i64 10, .string ⟨#[98]⟩, .slice none 0 0, .int .i64 4] 53)).alloc (.cells #[.int .i64 1, .string ⟨#[97]⟩, .slice (some ⟨w.heap.size, 0, none⟩) 1 1, .int .i64 0] 53)) := hA1.alloc (by rw [hz]; omega) _
  have r1 : NdRow (w.alloc (.cells #[.int .i64 10, .string ⟨#[98]⟩, .slice none 0 0, .int .i64 4] 53)) (fun b => w.heap.size ≤ b) [.mk 10 [98] [] 4] (some ⟨w.heap.size, 0, none⟩) :=
    NdRow.buildK (ok := fun b => w.heap.size ≤ b) (Nat.le_refl _) (NFlat.one (NdRow.cells (w := w) (k := 10) (n := [98]) (kids := []) (p := 4) (y := none) (c := ⟨0, Nat.le_refl _⟩) trivial))
  have r2 : NdRow ((w.alloc (.cells #[.int .i64 10, .string ⟨#[98]⟩, .slice none 0 0, .int .i64 4] 53)).alloc (.cells #[.int .i64 1, .string ⟨#[97]⟩, .slice (some ⟨w.heap.size, 0, none⟩) 1 1, .int .i64 0] 53)) (fun b => w.heap.size ≤ b) wkL (some ⟨(w.alloc (.cells #[.int .i64 10, .string ⟨#[98]⟩, .slice none 0 0, .int .i64 4] 53)).heap.size, 0, none⟩) :=
    NdRow.buildK (ok := fun b => w.heap.size ≤ b) (by rw [hz]; omega) (NFlat.one (NdRow.cells (k := 1) (n := [97]) (kids := [.mk 10 [98] [] 4]) (p := 0) (y := some ⟨w.heap.size, 0, none⟩) (c := ⟨1, Nat.le_refl _⟩) r1))
  have r3 := NdRow.mono (ok' := fun b => b < ((w.alloc (.cells #[.int .i64 10, .string ⟨#[98]⟩, .slice none 0 0, .int .i64 4] 53)).alloc (.cells #[.int .i64 1, .string ⟨#[97]⟩, .slice (some ⟨w.heap.size, 0, none⟩) 1 1, .int .i64 0] 53)).heap.size) (fun k _ h => h) (fun _ _ _ => rfl) _ _ r2
  rw [hz] at r3
  obtain ⟨W, hW⟩ : ∃ W, (w.alloc (.cells #[.int .i64 10, .string ⟨#[98]⟩, .slice none 0 0, .int .i64 4] 53)).alloc (.cells #[.int .i64 1, .string ⟨#[97]⟩, .slice (some ⟨w.heap.size, 0, none⟩) 1 1, .int .i64 0] 53) = W := ⟨_, rfl⟩
  have hW' := hW
  rw [hW] at hA r3
  have cC := scheck_any wkL (by show (4 : Nat) < _; decide) _ _ 1 W (hG.below hA) r3 (fun _ h => h)
  have HR := Lib.hid r3
  have HA := Lib.hid hA
  have HG := Lib.hid hG
  have HE := Lib.hid hE
  clear r1 r2 r3 hA1 hA hz hG hE hW'
  go_enter Tryz.func15, Tryz.ntmps15
  go_wp2_with fail
  clear hW
  generalize w.heap.size + 1 = g1 at *
  have hkk : checkR wkL = 0 := wkL_check
  refine cC.mono ?_
  clear cC
  rintro e w2 ⟨hb2, (⟨h0, -⟩ | ⟨-, h0, -⟩ | ⟨-, c, n, p, b, h1, h2, rfl, h3⟩)⟩
  · exact absurd hkk h0
  · rw [wkL_wrong] at h0
    cases h0
  rw [wkL_wrong] at h1
  cases h1
  have hbw2 := HA.out.trans (hb2.mono HA.out.size)
  have cF := sfree_any wkL (by show (4 : Nat) < _; decide) _ (some ⟨g1, 0, none⟩) 1 w2 (HG.out.below hbw2) (HR.out.below hb2) (fun b hb => Nat.lt_of_lt_of_le hb hb2.size)
  rw [wkL_free] at cF
  have HB2 := Lib.hid hbw2
  have H3 := Lib.hid h3
  clear hb2 hbw2 h2 h3 hkk
  go_wp2_with fail
  refine cF.mono ?_
  clear cF
  rintro e w3 ⟨v, rfl, hown, hb3⟩
  obtain ⟨a, c, rfl, hat⟩ := names_at hown
  obtain ⟨g, rfl, hc⟩ := hat 0 [98] rfl
  have hbw3 := HB2.out.trans (hb3.mono HB2.out.size)
  have h3' := (hb3.block b (Array.getElem?_eq_some_iff.1 H3.out).1).trans H3.out
  have hA4 : Below w3.heap.size w3 (w3.alloc (.cells #[.int .i64 280, .int .i64 4, .string ⟨#[98]⟩] 61)) := (Below.refl _ _).alloc (Nat.le_refl _) _
  have cT := stold_hit 280 4 ⟨#[98]⟩ b w3.heap.size (w3.alloc (.cells #[.int .i64 280, .int .i64 4, .string ⟨#[98]⟩] 61)) ((HE.out.below hbw3).below hA4) ((hA4.block b (Array.getElem?_eq_some_iff.1 h3').1).trans h3') (heap_alloc_new w3 _)
  have HB4 := Lib.hid (hbw3.trans (hA4.mono hbw3.size))
  have HC := Lib.hid ((hA4.cell (p := ⟨g, 0, none⟩) (World.block_lt_of_cell? w3 _ hc)).trans hc)
  clear hown hat hb3 hbw3 h3' hA4 hc H3 HB2
  go_wp2_with (first | (go_at_call 39; refine cT.mono ?_; rintro e w5 ⟨rfl, hb5⟩; have hc5 := (hb5.cell (p := ⟨g, 0, none⟩) (World.block_lt_of_cell? _ _ HC.out)).trans HC.out; have hbw5 := HB4.out.trans (hb5.mono HB4.out.size); have cN := scheck_any [] (by show (0 : Nat) < _; decide) (fun _ => False) none 0 w5 (HG.out.below hbw5) trivial (fun _ h => h.elim)) | (go_at_call 37; refine cN.mono ?_; rintro e w6 ⟨hb6, (⟨h0, -⟩ | ⟨-, -, rfl⟩ | ⟨-, c, n, p, b, h1, -⟩)⟩))
  go_ret
  exact ⟨rfl, hbw5.trans (hb6.mono hbw5.size)⟩
end Go.Proofs.YtpbkeamjdolpgaaGreatDoor
namespace Go.Proofs.YtpbkeamjdolpgaaGreatDoor

def codeR (l : List Nd) : Int × List UInt8 := match wrongE (evX l) with
  | none => (0, [])
  | some (c, n, _) => (c, n)
def Told2 : Ev → Prop
  | .bad c _ _ => c = 280 ∨ c = 281
  | _ => True
theorem dupE_two (ρ : Env) (n : List UInt8) (p : Int) : ∀ e ∈ dupE ρ n p, Told2 e := by
  unfold dupE
  split <;> simp [Told2]
theorem defE_two (ρ : Env) (k : Nat) (n : List UInt8) (p : Int) : ∀ e ∈ defE ρ k n p, Told2 e := by
  unfold defE
  generalize ((if k = 1 then (fnB n).isSome else (mdB n).isSome) || (findE ρ k n true).isSome) = b
  cases b <;> simp [Told2]
theorem exprE_two (ρ : Env) (k : Int) (n : List UInt8) (kids : List Nd) (p : Int) : ∀ e ∈ exprE ρ k n kids p, Told2 e := by
  unfold exprE
  split
  · split <;> simp [Told2]
  · split
    · split
      · simp [Told2]
      · split <;> simp [Told2]
    · simp
theorem callE_two (ρ : Env) (d : Nat) (n : List UInt8) (kids : List Nd) (p : Int) : ∀ e ∈ callE ρ d n kids p, Told2 e := by
  unfold callE
  split
  · simp [Told2]
  · split <;> simp [Told2]
theorem parE_two : ∀ (l : List Nd) (ρ : Env), ∀ e ∈ parE ρ l, Told2 e
  | [], _, e, h => by simp [parE] at h
  | .mk _ n _ p :: r, ρ, e, h => by
    rw [parE, List.mem_append] at h
    rcases h with h | h
    · exact dupE_two ρ n p e h
    · exact parE_two r _ e h
mutual
theorem evE_two (ρ : Env) : ∀ x : Nd, ∀ e ∈ evE ρ x, Told2 e
  | .mk k n kids p, e, h => by
    rw [evE, List.mem_append] at h
    rcases h with h | h
    · exact exprE_two ρ k n kids p e h
    · exact evEs_two ρ kids e h
theorem evEs_two (ρ : Env) : ∀ l : List Nd, ∀ e ∈ evEs ρ l, Told2 e
  | [], e, h => by simp [evEs] at h
  | x :: r, e, h => by
    rw [evEs, List.mem_append] at h
    rcases h with h | h
    · exact evE_two ρ x e h
    · exact evEs_two ρ r e h
end
mutual
theorem evS_two : ∀ (x : Nd) (ρ : Env) (d : Nat), ∀ e ∈ evS x ρ d, Told2 e
  | .mk k n kids p, ρ, d, e, h => by
    have hT := fun ρ d => evT_two kids ρ d e
    rw [evS] at h
    split at h
    · rw [List.mem_append] at h
      rcases h with h | h
      · exact dupE_two _ _ _ _ h
      · exact evEs_two _ _ _ h
    split at h
    · rw [List.mem_append, List.mem_append] at h
      rcases h with (h | h) | h
      · exact defE_two _ _ _ _ _ h
      · exact parE_two _ _ _ h
      · exact hT _ _ h
    split at h
    · rw [List.mem_append, List.mem_append] at h
      rcases h with (h | h) | h
      · exact defE_two _ _ _ _ _ h
      · exact parE_two _ _ _ h
      · exact evEs_two _ _ _ h
    split at h
    · rw [List.mem_append, List.mem_append] at h
      rcases h with (h | h) | h
      · split at h
        · simp at h
          subst h
          exact .inl rfl
        · cases h
      · exact evEs_two _ _ _ h
      · exact hT _ _ h
    split at h
    · rw [List.mem_append] at h
      rcases h with h | h
      · exact evEs_two _ _ _ h
      · exact hT _ _ h
    · rw [List.mem_append, List.mem_append] at h
      rcases h with (h | h) | h
      · exact callE_two _ _ _ _ _ _ h
      · exact evEs_two _ _ _ h
      · exact hT _ _ h
theorem evT_two : ∀ (l : List Nd) (ρ : Env) (d : Nat), ∀ e ∈ evT l ρ d, Told2 e
  | [], _, _, e, h => by simp [evT] at h
  | _ :: r, ρ, d, e, h => by
    rw [evT] at h
    exact evBs_two r ρ d e h
theorem evBs_two : ∀ (l : List Nd) (ρ : Env) (d : Nat), ∀ e ∈ evBs l ρ d, Told2 e
  | [], _, _, e, h => by simp [evBs] at h
  | x :: r, ρ, d, e, h => by
    rw [evBs, List.mem_append] at h
    rcases h with h | h
    · exact evB_two x ρ d e h
    · exact evBs_two r ρ d e h
theorem evB_two : ∀ (x : Nd) (ρ : Env) (d : Nat), ∀ e ∈ evB x ρ d, Told2 e
  | .mk _ _ l _, ρ, d, e, h => by
    rw [evB] at h
    exact evSs_two l _ d e h
theorem evSs_two : ∀ (l : List Nd) (ρ : Env) (d : Nat), ∀ e ∈ evSs l ρ d, Told2 e
  | [], _, _, e, h => by simp [evSs] at h
  | x :: r, ρ, d, e, h => by
    rw [evSs, List.mem_append] at h
    rcases h with h | h
    · exact evS_two x ρ d e h
    · exact evSs_two r _ d e h
end
theorem wrongE_two : ∀ {l : List Ev} {c : Int} {n : List UInt8} {p : Int}, (∀ e ∈ l, Told2 e) → wrongE l = some (c, n, p) → c = 280 ∨ c = 281
  | .call _ :: r, c, n, p, h, hw => wrongE_two (l := r) (fun e he => h e (List.mem_cons_of_mem _ he)) hw
  | .miss _ _ :: _, c, n, p, _, hw => by
    cases hw
    exact .inl rfl
  | .bad _ _ _ :: _, c, n, p, h, hw => by
    cases hw
    exact h _ (List.mem_cons_self ..)
  | [], _, _, _, _, hw => by cases hw
theorem wrongX_two {l : List Nd} {c : Int} {n : List UInt8} {p : Int} (h : wrongE (evX l) = some (c, n, p)) : c = 280 ∨ c = 281 := wrongE_two (evSs_two l [none] 0) h
end Go.Proofs.YtpbkeamjdolpgaaGreatDoor
namespace Go.Proofs.YtpbkeamjdolpgaaGreatDoor
open Go.RowKit Go.Lib Go.Extern.Stop Go.Stop Go.Extern

set_option maxHeartbeats 4000000 in
set_option maxRecDepth 100000 in
theorem code_nil (w : World) : Calls Tryz.prog 36 #[.nilIface] w fun e w' => e = .returned (.tuple #[.int .i64 0, .string ⟨#[]⟩]) ∧ Below w.heap.size w w' := by
  have hA : Below w.heap.size w (w.alloc (.cells #[.pointer none] 23)) := (Below.refl _ _).alloc (Nat.le_refl _) _
  have hz := World.size_alloc w (.cells #[.pointer none] 23)
  have hA2 : Below w.heap.size w ((w.alloc (.cells #[.pointer none] 23)).alloc (.cells #[.int .i64 0] 30)) := hA.alloc (by rw [hz]; omega) _
  have hc := heap_alloc_new (w.alloc (.cells #[.pointer none] 23)) (.cells #[.int .i64 0] 30)
  rw [hz] at hc
  have e1 := cell_of_one hc
  have HA := Lib.hid hA2
  clear hA hA2 hz hc
  go_enter Tryz.func36, Tryz.ntmps36
  go_wp2_with (first | (go_at_call 61; refine (as_nil _ _).mono ?_; rintro e w3 ⟨rfl, rfl⟩))
  go_ret2
  exact ⟨rfl, HA.out⟩
set_option maxHeartbeats 4000000 in
set_option maxRecDepth 100000 in
theorem code_hit (c p : Int) (T : ByteArray) (b : Nat) (w : World) (hE : GlE w) (h1 : w.heap[b]? = some (.cells #[.int .i64 c, .int .i64 p, .string T] 61 (0, 0))) :
    Calls Tryz.prog 36 #[.iface 23 (.pointer (some ⟨b, 0, none⟩))] w fun e w' => e = .returned (.tuple #[.int .i64 c, .string T]) ∧ Below w.heap.size w w' := by
  have hA : Below w.heap.size w (w.alloc (.cells #[.pointer none] 23)) := (Below.refl _ _).alloc (Nat.le_refl _) _
  have cA := as_hit2 ⟨b, 0, none⟩ ⟨w.heap.size, 0, none⟩ (.pointer none) (w.alloc (.cells #[.pointer none] 23)) (hE.below hA) (by simp) (by simp)
  have hl1 : b < w.heap.size := (Array.getElem?_eq_some_iff.1 h1).1
  have HK : Hid (∀ w3 : World, (∀ k, k ≠ w.heap.size → k < (w.alloc (.cells #[.pointer none] 23)).heap.size → w3.heap[k]? = (w.alloc (.cells #[.pointer none] 23)).heap[k]?) →
      (w3.cell? ⟨b, 0, none⟩ = some (.int .i64 c) ∧ w3.cell? ⟨b, 2, none⟩ = some (.string T))) := by
    refine Lib.hid fun w3 h => ?_
    have g1 := h b (by omega) (by simp; omega)
    rw [Below.heap_alloc _ _ _ hl1, h1] at g1
    exact ⟨cell_of_row w3 b 0 _ _ _ g1, cell_of_row w3 b 2 _ _ _ g1⟩
  have HA := Lib.hid hA
  clear h1 hE hA hl1
  go_enter Tryz.func36, Tryz.ntmps36
  go_wp2_with fail
  refine cA.mono ?_
  clear cA
  rintro e w3 ⟨rfl, ha1, ha2, ha3⟩
  obtain ⟨r0, r2⟩ := HK.out w3 ha3
  have HB := Lib.hid (HA.out.trans ha1)
  clear ha1 ha3 HK HA
  go_wp2_with fail
  go_quiet (fail)
  go_wp2_with fail
  go_ret2
  exact ⟨rfl, bdn HB.out _⟩
theorem code_any {l : List Nd} {w w' : World} {e : Ending} (h : ScEnd l w e w') (hc : checkR l = 0) : ∃ v, e = .returned v ∧ ∀ W, Below w'.heap.size w' W → GlE W →
    Calls Tryz.prog 36 #[v] W fun e2 W2 => e2 = .returned (.tuple #[.int .i64 (codeR l).1, .string ⟨(codeR l).2.toArray⟩]) ∧ Below W.heap.size W W2 := by
  obtain ⟨-, (⟨h0, -⟩ | ⟨-, h0, rfl⟩ | ⟨-, c, n, p, b, h1, h2, rfl, h3⟩)⟩ := h
  · exact absurd hc h0
  · refine ⟨_, rfl, fun W _ _ => ?_⟩
    have : codeR l = (0, []) := by unfold codeR; rw [h0]
    rw [this]
    exact code_nil W
  · refine ⟨_, rfl, fun W hb hE => ?_⟩
    have : codeR l = (c, n) := by unfold codeR; rw [h1]
    rw [this]
    exact code_hit c p ⟨n.toArray⟩ b W hE ((hb.block b (Array.getElem?_eq_some_iff.1 h3).1).trans h3)
end Go.Proofs.YtpbkeamjdolpgaaGreatDoor
namespace Go.Proofs.YtpbkeamjdolpgaaGreatDoor
open Go.RowKit Go.Lib

end Go.Proofs.YtpbkeamjdolpgaaGreatDoor
namespace Go.Proofs.YtpbkeamjdolpgaaGreatDoor
open Go.RowKit Go.Lib

def bwords : List (List UInt8) := [[116, 114, 117, 101], [102, 97, 108, 115, 101], [108, 101, 110], [97, 98, 115], [102, 108, 111, 111, 114], [109, 105, 110], [109, 97, 120], [114, 97, 110, 103, 101], [101, 109, 112, 116, 121], [102, 117, 108, 108], [104, 97, 108, 102], [98, 111, 120], [100, 111, 116, 115], [100, 105, 97, 109, 111, 110, 100], [99, 104, 105, 108, 100, 114, 101, 110], [117, 110, 105, 111, 110], [105, 110, 116, 101, 114, 115, 101, 99, 116, 105, 111, 110], [100, 105, 102, 102, 101, 114, 101, 110, 99, 101], [120, 111, 114], [104, 117, 108, 108], [109, 105, 110, 107, 111, 119, 115, 107, 105], [99, 111, 109, 112, 108, 101, 109, 101, 110, 116], [105, 110, 116, 101, 114, 105, 111, 114], [99, 108, 111, 115, 117, 114, 101], [98, 111, 117, 110, 100, 97, 114, 121], [114, 101, 103, 117, 108, 97, 114], [109, 111, 118, 101], [115, 116, 114, 101, 116, 99, 104], [109, 105, 114, 114, 111, 114], [116, 117, 114, 110], [109, 97, 112]]
def builtB (s : List UInt8) : Bool := decide (s ∈ bwords)
def wOther : List UInt8 := [111, 116, 104, 101, 114, 95]
def turnW (s : List UInt8) : List UInt8 := if builtB s then s else wOther ++ s
def turnK (k : Int) : Bool := decide (k = 1) || decide (k = 2) || decide (k = 3) || decide (k = 5) || decide (k = 7) || decide (k = 13) || decide (k = 10)
mutual
def turnN : Nd → Nd
  | .mk k n kids p => .mk k (if turnK k then turnW n else n) (turnL kids) p
def turnL : List Nd → List Nd
  | [] => []
  | x :: r => turnN x :: turnL r
end
theorem turnL_map : ∀ l, turnL l = l.map turnN
  | [] => by rw [turnL]; rfl
  | x :: r => by rw [turnL, turnL_map r]; rfl
theorem turnL_len (l : List Nd) : (turnL l).length = l.length := by rw [turnL_map, List.length_map]
theorem bwords_other : ∀ x ∈ bwords, wOther.isPrefixOf x = false := by
  have : (bwords.all fun x => !wOther.isPrefixOf x) = true := by decide +kernel
  intro x hx
  have := List.all_eq_true.1 this x hx
  simpa using this
theorem other_out (s : List UInt8) : wOther ++ s ∉ bwords := fun h => by
  have h1 := bwords_other _ h
  rw [List.isPrefixOf_iff_prefix.2 (List.prefix_append _ _)] at h1
  cases h1
theorem turnW_inj {a b : List UInt8} : turnW a = turnW b ↔ a = b := by
  refine ⟨fun h => ?_, fun h => by rw [h]⟩
  unfold turnW at h
  by_cases ha : builtB a = true
  · by_cases hb : builtB b = true
    · rwa [if_pos ha, if_pos hb] at h
    · rw [if_pos ha, if_neg hb] at h
      exact absurd (h ▸ of_decide_eq_true ha) (other_out b)
  · by_cases hb : builtB b = true
    · rw [if_neg ha, if_pos hb] at h
      exact absurd (h ▸ of_decide_eq_true hb) (other_out a)
    · rw [if_neg ha, if_neg hb] at h
      exact List.append_cancel_left h
theorem turnW_mem {L : List (List UInt8)} (hL : ∀ x ∈ L, x ∈ bwords) (s : List UInt8) : turnW s ∈ L ↔ s ∈ L := by
  unfold turnW
  by_cases hs : builtB s = true
  · rw [if_pos hs]
  · rw [if_neg hs]
    exact ⟨fun h => absurd (hL _ h) (other_out s), fun h => absurd (decide_eq_true (hL _ h)) hs⟩
theorem turnW_eq {x : List UInt8} (hx : x ∈ bwords) (s : List UInt8) : turnW s = x ↔ s = x := by
  have := turnW_mem (L := [x]) (fun y hy => by rw [List.mem_singleton.1 hy]; exact hx) s
  simpa using this
theorem sub_b {L : List (List UInt8)} (h : (L.all fun x => decide (x ∈ bwords)) = true) : ∀ x ∈ L, x ∈ bwords := fun x hx => of_decide_eq_true (List.all_eq_true.1 h x hx)
theorem turn_truth (s : List UInt8) : truthB (turnW s) = truthB s := by
  unfold truthB
  congr 1 <;> exact decide_eq_decide.2 (turnW_eq (by decide +kernel) s)
theorem turn_fn (s : List UInt8) : fnB (turnW s) = fnB s := by
  unfold fnB
  simp only [turnW_mem (sub_b (L := fn1) (by decide +kernel)), turnW_mem (sub_b (L := fn2) (by decide +kernel))]
theorem turn_md (s : List UInt8) : mdB (turnW s) = mdB s := by
  unfold mdB
  simp only [turnW_mem (sub_b (L := md0) (by decide +kernel)), turnW_mem (sub_b (L := md1) (by decide +kernel)), turnW_mem (sub_b (L := md2) (by decide +kernel)), turnW_mem (sub_b (L := mb0) (by decide +kernel)), turnW_mem (sub_b (L := mb1) (by decide +kernel))]
theorem turn_children (s : List UInt8) : turnW s = wChildren ↔ s = wChildren := turnW_eq (by decide +kernel) s
def turnR (ρ : Env) : Env := ρ.map (Option.map fun d => (d.1, turnW d.2.1, d.2.2))
theorem turn_find : ∀ (ρ : Env) (k : Nat) (s : List UInt8) (own : Bool), findE (turnR ρ) k (turnW s) own = findE ρ k s own
  | [], _, _, _ => rfl
  | some (k', s', a) :: r, k, s, own => by
    show (if k = k' ∧ turnW s = turnW s' then some a else findE (turnR r) k (turnW s) own) = _
    rw [turn_find r k s own]
    show _ = (if k = k' ∧ s = s' then some a else findE r k s own)
    simp only [turnW_inj]
  | none :: r, k, s, own => by
    show (if own then none else findE (turnR r) k (turnW s) false) = (if own then none else findE r k s false)
    rw [turn_find r k s false]
def turnE : Ev → Ev
  | .call n => .call (turnW n)
  | .miss n p => .miss (turnW n) p
  | .bad c n p => .bad c (turnW n) p
theorem turn_wrong : ∀ l : List Ev, wrongE (l.map turnE) = (wrongE l).map fun x => (x.1, turnW x.2.1, x.2.2)
  | [] => rfl
  | .call _ :: r => turn_wrong r
  | .miss _ _ :: _ => rfl
  | .bad _ _ _ :: _ => rfl
theorem turn_argc (l : List Nd) : argc (turnL l) = argc l := by
  cases l with
  | nil => rfl
  | cons x r =>
    obtain ⟨k, n, kids, p⟩ := x
    show (turnL kids).length = kids.length
    exact turnL_len kids
theorem turn_bodyOf (l : List Nd) : bodyOf (turnL l) = turnL (bodyOf l) := by
  cases l with
  | nil => rfl
  | cons x r =>
    obtain ⟨k, n, kids, p⟩ := x
    rfl
theorem turn_exprE (ρ : Env) (k : Int) (n : List UInt8) (kids : List Nd) (p : Int) : exprE (turnR ρ) k (if turnK k then turnW n else n) (turnL kids) p = (exprE ρ k n kids p).map turnE := by
  unfold exprE
  by_cases h10 : k = 10
  · subst h10
    rw [if_pos rfl, if_pos rfl, if_pos (show turnK 10 = true from rfl), turn_find, turn_truth]
    split <;> rfl
  rw [if_neg h10, if_neg h10]
  by_cases h13 : k = 13
  · subst h13
    rw [if_pos rfl, if_pos rfl, if_pos (show turnK 13 = true from rfl), turn_find, turn_fn, turn_argc]
    cases (findE ρ 1 n false).or (fnB n) with
    | none => rfl
    | some a =>
      by_cases ha : argc kids = a
      · simp [ha, turnE]
      · simp [ha, turnE]
  · rw [if_neg h13, if_neg h13]
    rfl
mutual
theorem turn_evE (ρ : Env) : ∀ x : Nd, evE (turnR ρ) (turnN x) = (evE ρ x).map turnE
  | .mk k n kids p => by rw [turnN, evE, evE, List.map_append, turn_exprE, turn_evEs ρ kids]
theorem turn_evEs (ρ : Env) : ∀ l : List Nd, evEs (turnR ρ) (turnL l) = (evEs ρ l).map turnE
  | [] => by rw [turnL, evEs]; rfl
  | x :: r => by rw [turnL, evEs, evEs, List.map_append, turn_evE ρ x, turn_evEs ρ r]
end
theorem turn_dup (ρ : Env) (n : List UInt8) (p : Int) : dupE (turnR ρ) (turnW n) p = (dupE ρ n p).map turnE := by
  unfold dupE
  rw [turn_find, turn_truth]
  split <;> rfl
theorem turn_def (ρ : Env) (k : Nat) (n : List UInt8) (p : Int) : defE (turnR ρ) k (turnW n) p = (defE ρ k n p).map turnE := by
  unfold defE
  rw [turn_find, turn_fn, turn_md]
  generalize ((if k = 1 then (fnB n).isSome else (mdB n).isSome) || (findE ρ k n true).isSome) = b
  cases b <;> rfl
theorem parsR_mk {k : Int} {n : List UInt8} {l r : List Nd} {p : Int} (h : parsR (.mk k n l p :: r) = true) : k = 10 ∧ parsR r = true := by
  rw [parsR, Bool.and_eq_true, Bool.and_eq_true] at h
  exact ⟨of_decide_eq_true h.1.1, h.2⟩
theorem turn_par : ∀ (l : List Nd), parsR l = true → ∀ ρ : Env, parE (turnR ρ) (turnL l) = (parE ρ l).map turnE ∧ parV (turnR ρ) (turnL l) = turnR (parV ρ l)
  | [], _, ρ => ⟨rfl, rfl⟩
  | .mk k n l p :: r, h, ρ => by
    obtain ⟨rfl, h2⟩ := parsR_mk h
    obtain ⟨e1, e2⟩ := turn_par r h2 (some (0, n, 0) :: ρ)
    refine ⟨?_, e2⟩
    show dupE (turnR ρ) (turnW n) p ++ parE (some (0, turnW n, 0) :: turnR ρ) (turnL r) = _
    rw [parE, List.map_append, turn_dup]
    congr 1
theorem turn_callE (ρ : Env) (m : Nat) (n : List UInt8) (kids : List Nd) (p : Int) : callE (turnR ρ) m (turnW n) (turnL kids) p = (callE ρ m n kids p).map turnE := by
  unfold callE
  simp only [turn_find, turn_md, turn_argc, turnL_len, List.map_cons, turn_children]
  congr 1
  cases ((findE ρ 2 n false).map fun a => (a, true)).or (if n = wChildren ∧ m = 0 then none else mdB n) with
  | none => rfl
  | some ab =>
    obtain ⟨a, b⟩ := ab
    show (if _ then _ else _) = List.map turnE (if _ then _ else _)
    split <;> rfl
theorem turn_envS {x : Nd} (h : stR x = true) (ρ : Env) : envS (turnR ρ) (turnN x) = turnR (envS ρ x) := by
  cases stC_of h <;> (try rfl)
  all_goals (
    rw [turnN, envS, envS, turn_argc]
    rfl)
theorem stsR_cons {x : Nd} {r : List Nd} (h : stsR (x :: r) = true) : stR x = true ∧ stsR r = true := by
  rw [stsR, Bool.and_eq_true] at h
  exact h
theorem turn_evSs_of : ∀ (l : List Nd), stsR l = true → (∀ x ∈ l, ∀ (ρ : Env) (m : Nat), evS (turnN x) (turnR ρ) m = (evS x ρ m).map turnE) → ∀ (ρ : Env) (m : Nat), evSs (turnL l) (turnR ρ) m = (evSs l ρ m).map turnE
  | [], _, _, ρ, m => by rw [turnL, evSs, evSs]; rfl
  | x :: r, h, hx, ρ, m => by
    obtain ⟨h1, h2⟩ := stsR_cons h
    rw [turnL, evSs, evSs, List.map_append, hx x (by simp), turn_envS h1, turn_evSs_of r h2 (fun y hy => hx y (by simp [hy]))]
theorem turn_evS : ∀ (N : Nat) (x : Nd), wtN x < N → stR x = true → ∀ (ρ : Env) (m : Nat), evS (turnN x) (turnR ρ) m = (evS x ρ m).map turnE
  | 0, _, h, _ => absurd h (by omega)
  | N + 1, x, hN, h => by
    have blk : ∀ (b : List Nd), wtL b < N → stsR b = true → ∀ (ρ : Env) (m : Nat), evSs (turnL b) (turnR ρ) m = (evSs b ρ m).map turnE := fun b hb hs => turn_evSs_of b hs fun y hy => turn_evS N y (Nat.lt_of_le_of_lt (wtL_mem hy) hb) (stsR_each hs y hy)
    intro ρ m
    cases stC_of h with
    | set s x p hp hx =>
      rw [turnN, evS, evS]
      show dupE (turnR ρ) (turnW s) p ++ evEs (turnR ρ) (turnL [x]) = List.map turnE (dupE ρ s p ++ evEs ρ [x])
      rw [List.map_append, turn_dup, turn_evEs]
    | module s l q b r p hp hl hb =>
      have hw : wtL b < N := by
        rw [wtN_mk] at hN
        have : wtL [Nd.mk 4 [] l q, .mk 0 [] b r] = wtN (.mk 4 [] l q) + (wtN (.mk 0 [] b r) + 0) := rfl
        rw [this, wtN_mk, wtN_mk] at hN
        omega
      have h1 := turn_par l hl (none :: some (2, s, l.length) :: ρ)
      have h2 := blk b hw hb (none :: parV (none :: some (2, s, l.length) :: ρ) l) (m + 1)
      rw [turnN, evS, evS, turn_argc, turn_bodyOf]
      show (defE (turnR ρ) 2 (turnW s) p ++ parE (turnR (none :: some (2, s, l.length) :: ρ)) (turnL l)) ++ ((evSs (turnL b) (none :: parV (turnR (none :: some (2, s, l.length) :: ρ)) (turnL l)) (m + 1)) ++ []) = List.map turnE ((defE ρ 2 s p ++ parE (none :: some (2, s, l.length) :: ρ) l) ++ (evSs b (none :: parV (none :: some (2, s, l.length) :: ρ) l) (m + 1) ++ []))
      rw [List.append_nil, List.append_nil, List.map_append, List.map_append, turn_def, h1.1, h1.2, ← h2]
      rfl
    | function s l q x p hp hl hx =>
      have h1 := turn_par l hl (none :: some (1, s, l.length) :: ρ)
      have h2 := turn_evEs (parV (none :: some (1, s, l.length) :: ρ) l) [x]
      rw [turnN, evS, evS, turn_argc, turn_bodyOf]
      show (defE (turnR ρ) 1 (turnW s) p ++ parE (turnR (none :: some (1, s, l.length) :: ρ)) (turnL l)) ++ evEs (parV (turnR (none :: some (1, s, l.length) :: ρ)) (turnL l)) (turnL [x]) = List.map turnE ((defE ρ 1 s p ++ parE (none :: some (1, s, l.length) :: ρ) l) ++ evEs (parV (none :: some (1, s, l.length) :: ρ) l) [x])
      rw [List.map_append, List.map_append, turn_def, h1.1, h1.2, h2]
    | loop s x b r p hp hx hb =>
      have hw : wtL b < N := by
        rw [wtN_mk] at hN
        have : wtL [x, .mk 0 [] b r] = wtN x + (wtN (.mk 0 [] b r) + 0) := rfl
        rw [this, wtN_mk] at hN
        omega
      have h1 := turn_evEs ρ [x]
      have h2 := blk b hw hb (none :: some (0, s, 0) :: ρ) m
      rw [turnN, evS, evS]
      show ((if truthB (turnW s) = true then [Ev.bad 280 (turnW s) p] else []) ++ evEs (turnR ρ) (turnL [x])) ++ (evSs (turnL b) (turnR (none :: some (0, s, 0) :: ρ)) m ++ []) = List.map turnE (((if truthB s = true then [Ev.bad 280 s p] else []) ++ evEs ρ [x]) ++ (evSs b (none :: some (0, s, 0) :: ρ) m ++ []))
      rw [turn_truth, List.append_nil, List.append_nil, List.map_append, List.map_append, h1, h2]
      congr 2
      split <;> rfl
    | cond x b r p hx hb =>
      have hw : wtL b < N := by
        rw [wtN_mk] at hN
        have : wtL [x, .mk 0 [] b r] = wtN x + (wtN (.mk 0 [] b r) + 0) := rfl
        rw [this, wtN_mk] at hN
        omega
      have h1 := turn_evEs ρ [x]
      have h2 := blk b hw hb (none :: ρ) m
      rw [turnN, evS, evS]
      show evEs (turnR ρ) (turnL [x]) ++ (evSs (turnL b) (turnR (none :: ρ)) m ++ []) = List.map turnE (evEs ρ [x] ++ (evSs b (none :: ρ) m ++ []))
      rw [List.append_nil, List.append_nil, List.map_append, h1, h2]
    | cond2 x b r b' r' p hx hb hb' =>
      have hw : wtL b < N ∧ wtL b' < N := by
        rw [wtN_mk] at hN
        have : wtL [x, .mk 0 [] b r, .mk 0 [] b' r'] = wtN x + (wtN (.mk 0 [] b r) + (wtN (.mk 0 [] b' r') + 0)) := rfl
        rw [this, wtN_mk, wtN_mk] at hN
        omega
      have h1 := turn_evEs ρ [x]
      have h2 := blk b hw.1 hb (none :: ρ) m
      have h3 := blk b' hw.2 hb' (none :: ρ) m
      rw [turnN, evS, evS]
      show evEs (turnR ρ) (turnL [x]) ++ (evSs (turnL b) (turnR (none :: ρ)) m ++ (evSs (turnL b') (turnR (none :: ρ)) m ++ [])) = List.map turnE (evEs ρ [x] ++ (evSs b (none :: ρ) m ++ (evSs b' (none :: ρ) m ++ [])))
      rw [List.append_nil, List.append_nil, List.map_append, List.map_append, h1, h2, h3]
    | call s l q p hp hl =>
      have h1 := turn_evEs ρ l
      have h2 := turn_callE ρ m s [.mk 8 [] l q] p
      rw [turnN, evS, evS, turn_bodyOf]
      show (callE (turnR ρ) m (turnW s) (turnL [.mk 8 [] l q]) p ++ evEs (turnR ρ) (turnL l)) ++ [] = List.map turnE ((_ ++ evEs ρ l) ++ [])
      rw [List.append_nil, List.append_nil, List.map_append, h1, h2]
    | callB s l q b r p hp hl hb =>
      have hw : wtL b < N := by
        rw [wtN_mk] at hN
        have : wtL [Nd.mk 8 [] l q, .mk 0 [] b r] = wtN (.mk 8 [] l q) + (wtN (.mk 0 [] b r) + 0) := rfl
        rw [this, wtN_mk, wtN_mk] at hN
        omega
      have h1 := turn_evEs ρ l
      have h2 := turn_callE ρ m s [.mk 8 [] l q, .mk 0 [] b r] p
      have h3 := blk b hw hb (none :: ρ) m
      rw [turnN, evS, evS, turn_bodyOf]
      show (callE (turnR ρ) m (turnW s) (turnL [.mk 8 [] l q, .mk 0 [] b r]) p ++ evEs (turnR ρ) (turnL l)) ++ (evSs (turnL b) (turnR (none :: ρ)) m ++ []) = List.map turnE ((_ ++ evEs ρ l) ++ (evSs b (none :: ρ) m ++ []))
      rw [List.append_nil, List.append_nil, List.map_append, List.map_append, h1, h2, h3]
theorem turn_evX {l : List Nd} (h : stsR l = true) : evX (turnL l) = (evX l).map turnE := turn_evSs_of l h (fun x hx => turn_evS _ x (Nat.lt_succ_self _) (stsR_each h x hx)) [none] 0
end Go.Proofs.YtpbkeamjdolpgaaGreatDoor
namespace Go.Proofs.YtpbkeamjdolpgaaGreatDoor
open Go.RowKit Go.Lib

theorem run_step (p : Nat → Nat → Bool) (f i : Nat) (c : UInt8) (r : List UInt8) (hc : c.toNat < 128) (hp : p i c.toNat = true) : runL p (f + 1) i (c :: r) = 1 + runL p f (i + 1) r := by
  have hd := dec_small c r hc
  have hb : badL (c :: r) = false := by
    unfold badL
    rw [hd]
    have : (c.toNat == 65533) = false := by
      rw [beq_eq_false_iff_ne]
      omega
    show ((c.toNat == 65533) && _) = false
    rw [this, Bool.false_and]
  rw [runL, if_neg (by simp), hb, if_neg (by simp), hd, if_pos hp]
  rfl
theorem isNm_later {i j r : Nat} (hij : i ≤ j) (h : isNm i r = true) : isNm j r = true := by
  unfold isNm at h ⊢
  cases h1 : (r == 95 || Lib.isLetterU r) with
  | true => rfl
  | false =>
    rw [h1, Bool.false_or, Bool.and_eq_true] at h
    rw [Bool.false_or, Bool.and_eq_true]
    exact ⟨decide_eq_true (Nat.lt_of_lt_of_le (of_decide_eq_true h.1) hij), h.2⟩
theorem run_later : ∀ (f i j : Nat) (l : List UInt8), i ≤ j → runL isNm f i l = l.length → runL isNm f j l = l.length
  | 0, _, _, _, _, h => h
  | f + 1, i, j, l, hij, h => by
    rw [runL] at h ⊢
    by_cases hl : l = []
    · rw [if_pos hl] at h ⊢
      exact h
    rw [if_neg hl] at h ⊢
    by_cases hb : badL l = true
    · rw [if_pos hb] at h ⊢
      exact h
    rw [if_neg hb] at h ⊢
    by_cases hp : isNm i (dec l).1 = true
    · rw [if_pos hp] at h
      rw [if_pos (isNm_later hij hp)]
      have h1 := dec_le l hl
      have h2 := run_later f (i + (dec l).2) (j + (dec l).2) (l.drop (dec l).2) (by omega) (by rw [List.length_drop]; omega)
      rw [h2, List.length_drop]
      omega
    · rw [if_neg hp] at h
      have := List.length_pos_iff.2 hl
      omega
theorem isNm_other : ∀ i : Nat, isNm i 111 = true ∧ isNm i 116 = true ∧ isNm i 104 = true ∧ isNm i 101 = true ∧ isNm i 114 = true ∧ isNm i 95 = true := fun i =>
  have h : ∀ r : Nat, isNm 0 r = true → isNm i r = true := fun r h => isNm_later (Nat.zero_le i) h
  ⟨h _ (by kernel_rfl), h _ (by kernel_rfl), h _ (by kernel_rfl), h _ (by kernel_rfl), h _ (by kernel_rfl), h _ (by kernel_rfl)⟩
theorem name_other {s : List UInt8} (h : nameL s = s.length) : nameL (wOther ++ s) = (wOther ++ s).length := by
  unfold nameL at h ⊢
  have hl : (wOther ++ s).length = s.length + 6 := by rw [List.length_append]; show 6 + _ = _; omega
  rw [hl]
  show runL isNm (s.length + 6) 0 (111 :: 116 :: 104 :: 101 :: 114 :: 95 :: s) = _
  rw [run_step isNm (s.length + 5) 0 111 _ (by decide) (isNm_other 0).1, run_step isNm (s.length + 4) 1 116 _ (by decide) (isNm_other 1).2.1, run_step isNm (s.length + 3) 2 104 _ (by decide) (isNm_other 2).2.2.1, run_step isNm (s.length + 2) 3 101 _ (by decide) (isNm_other 3).2.2.2.1, run_step isNm (s.length + 1) 4 114 _ (by decide) (isNm_other 4).2.2.2.2.1, run_step isNm s.length 5 95 _ (by decide) (isNm_other 5).2.2.2.2.2, run_later s.length 0 6 s (by omega) h]
  omega
theorem resv_other (s : List UInt8) : resv (wOther ++ s) = false := by
  have h : ∀ x ∈ resvL, wOther.isPrefixOf x = false := by
    have : (resvL.all fun x => !wOther.isPrefixOf x) = true := by decide +kernel
    intro x hx
    have := List.all_eq_true.1 this x hx
    simpa using this
  rw [← resv_mem]
  refine decide_eq_false fun hm => ?_
  have h1 := h _ hm
  rw [List.isPrefixOf_iff_prefix.2 (List.prefix_append _ _)] at h1
  cases h1
theorem plain_turn {s : List UInt8} (h : plainR s = true) : plainR (turnW s) = true := by
  unfold turnW
  by_cases hs : builtB s = true
  · rwa [if_pos hs]
  · rw [if_neg hs]
    unfold plainR at h ⊢
    rw [Bool.and_eq_true, Bool.and_eq_true] at h
    have h2 := name_other (of_decide_eq_true h.1.2)
    rw [h2, resv_other]
    simp [wOther]
theorem turn_nil (l : List Nd) : (turnL l).isEmpty = l.isEmpty := by
  cases l with
  | nil => rfl
  | cons x r => rw [turnL]; rfl
theorem turn_kind (x : Nd) : (turnN x).kind = x.kind := by
  obtain ⟨k, n, l, p⟩ := x
  rfl
mutual
theorem turn_exR : ∀ x : Nd, exR x = true → exR (turnN x) = true
  | .mk k n kids p, h => by
    have hs := turn_exsR kids
    have hk := turn_shR [8] kids (by simp)
    rw [turnN, exR_eq, turn_nil, turnL_len]
    rw [exR_eq] at h
    by_cases k9 : k = 9
    · subst k9
      rwa [if_pos rfl] at h ⊢
    rw [if_neg k9] at h ⊢
    by_cases k10 : k = 10
    · subst k10
      rw [if_pos rfl, Bool.and_eq_true] at h
      rw [if_pos rfl, if_pos (by decide), plain_turn h.1, h.2]
      rfl
    rw [if_neg k10] at h ⊢
    by_cases k11 : k = 11
    · subst k11
      rw [if_pos rfl, Bool.and_eq_true] at h
      rw [if_pos rfl, if_neg (by decide), hs h.2, h.1]
      rfl
    rw [if_neg k11] at h ⊢
    by_cases k12 : k = 12
    · subst k12
      rw [if_pos rfl] at h ⊢
      rw [if_neg (show ¬ turnK 12 = true by decide)]
      by_cases hl : kids.length = 1
      · rw [if_pos hl, Bool.and_eq_true] at h
        rw [if_pos hl, hs h.2, h.1]
        rfl
      · rw [if_neg hl, Bool.and_eq_true] at h
        rw [if_neg hl, hs h.2, h.1]
        rfl
    rw [if_neg k12] at h ⊢
    by_cases k13 : k = 13
    · subst k13
      rw [if_pos rfl, Bool.and_eq_true] at h
      rw [if_pos rfl, if_pos (by decide), plain_turn h.1, hk h.2]
      rfl
    rw [if_neg k13] at h ⊢
    by_cases k14 : k = 14
    · subst k14
      rw [if_pos rfl, Bool.and_eq_true] at h
      rw [if_pos rfl, if_neg (by decide), hs h.2, h.1]
      rfl
    rw [if_neg k14] at h ⊢
    by_cases k15 : k = 15
    · subst k15
      rw [if_pos rfl, Bool.and_eq_true] at h
      rw [if_pos rfl, if_neg (by decide), hs h.2, h.1]
      rfl
    · rw [if_neg k15] at h
      cases h
theorem turn_exsR : ∀ l : List Nd, exsR l = true → exsR (turnL l) = true
  | [], _ => by rw [turnL, exsR]
  | x :: r, h => by
    rw [exsR, Bool.and_eq_true] at h
    rw [turnL, exsR, turn_exR x h.1, turn_exsR r h.2]
    rfl
theorem turn_stR : ∀ x : Nd, stR x = true → stR (turnN x) = true
  | .mk k n kids p, h => by
    have hk := fun (ws : List Int) (hw : ∀ w ∈ ws, w < 0 ∨ w = 0 ∨ w = 4 ∨ w = 8) => turn_shR ws kids hw
    rw [turnN, stR_eq, turnL_len]
    rw [stR_eq] at h
    by_cases k6 : k = 6
    · subst k6
      rw [if_pos rfl, Bool.and_eq_true] at h
      rw [if_pos rfl, if_neg (by decide), hk _ (by first | simp | (split <;> simp)) h.2, h.1]
      rfl
    rw [if_neg k6, Bool.and_eq_true] at h
    rw [if_neg k6]
    obtain ⟨h1, h2⟩ := h
    have hp := plain_turn h1
    by_cases k1 : k = 1
    · subst k1
      rw [if_pos rfl] at h2
      rw [if_pos rfl, if_pos (by decide), hp, hk _ (by first | simp | (split <;> simp)) h2]
      rfl
    rw [if_neg k1] at h2 ⊢
    by_cases k2 : k = 2
    · subst k2
      rw [if_pos rfl] at h2
      rw [if_pos rfl, if_pos (by decide), hp, hk _ (by first | simp | (split <;> simp)) h2]
      rfl
    rw [if_neg k2] at h2 ⊢
    by_cases k3 : k = 3
    · subst k3
      rw [if_pos rfl] at h2
      rw [if_pos rfl, if_pos (by decide), hp, hk _ (by first | simp | (split <;> simp)) h2]
      rfl
    rw [if_neg k3] at h2 ⊢
    by_cases k5 : k = 5
    · subst k5
      rw [if_pos rfl] at h2
      rw [if_pos rfl, if_pos (by decide), hp, hk _ (by first | simp | (split <;> simp)) h2]
      rfl
    rw [if_neg k5] at h2 ⊢
    by_cases k7 : k = 7
    · subst k7
      rw [if_pos rfl] at h2
      rw [if_pos rfl, if_pos (by decide), hp, hk _ (by first | simp | (split <;> simp)) h2]
      rfl
    · rw [if_neg k7] at h2
      cases h2
theorem turn_stsR : ∀ l : List Nd, stsR l = true → stsR (turnL l) = true
  | [], _ => by rw [turnL, stsR]
  | x :: r, h => by
    rw [stsR, Bool.and_eq_true] at h
    rw [turnL, stsR, turn_stR x h.1, turn_stsR r h.2]
    rfl
theorem turn_parsR : ∀ l : List Nd, parsR l = true → parsR (turnL l) = true
  | [], _ => by rw [turnL, parsR]
  | x :: r, h => by
    rw [parsR, Bool.and_eq_true, Bool.and_eq_true] at h
    rw [turnL, parsR, turn_kind, turn_exR x h.1.2, turn_parsR r h.2, h.1.1]
    rfl
theorem turn_partR : ∀ x : Nd, (x.kind = 0 ∨ x.kind = 4 ∨ x.kind = 8) → partR x = true → partR (turnN x) = true
  | .mk k n kids p, hk, h => by
    rw [partR, Bool.and_eq_true] at h
    have hT : turnK k = false := by
      rcases hk with h | h | h <;> (have h : k = _ := h; subst h; rfl)
    rw [turnN, partR, if_neg (by rw [hT]; decide), h.1, Bool.true_and]
    obtain ⟨-, h2⟩ := h
    by_cases k0 : k = 0
    · rw [if_pos k0] at h2 ⊢
      exact turn_stsR kids h2
    rw [if_neg k0] at h2 ⊢
    by_cases k4 : k = 4
    · rw [if_pos k4] at h2 ⊢
      exact turn_parsR kids h2
    rw [if_neg k4] at h2 ⊢
    exact turn_exsR kids h2
theorem turn_shR : ∀ (ws : List Int) (l : List Nd), (∀ w ∈ ws, w < 0 ∨ w = 0 ∨ w = 4 ∨ w = 8) → shR ws l = true → shR ws (turnL l) = true
  | [], [], _, h => by rw [turnL]; exact h
  | w :: ws, x :: r, hw, h => by
    rw [shR, Bool.and_eq_true] at h
    rw [turnL, shR, turn_shR ws r (fun w' h' => hw w' (by simp [h'])) h.2, Bool.and_true, turn_kind]
    by_cases h0 : w < 0
    · rw [if_pos h0] at h ⊢
      exact turn_exR x h.1
    · rw [if_neg h0, Bool.and_eq_true] at h
      rw [if_neg h0, Bool.and_eq_true]
      refine ⟨h.1.1, turn_partR x ?_ h.1.2⟩
      have := of_decide_eq_true h.1.1
      have := hw w (by simp)
      omega
  | [], _ :: _, _, h => by rw [shR] at h <;> simp_all
  | _ :: _, [], _, h => by rw [shR] at h <;> simp_all
end
mutual
theorem turn_deepN : ∀ (x : Nd) (d : Nat), deepN x d = none → deepN (turnN x) d = none
  | .mk k n l p, d, h => by
    rw [turnN, deepN]
    rw [deepN] at h
    exact turn_deepL l (d + 1) h
theorem turn_deepL : ∀ (l : List Nd) (d : Nat), deepL l d = none → deepL (turnL l) d = none
  | [], _, _ => by rw [turnL, deepL]
  | x :: r, d, h => by
    rw [deepL] at h
    rw [turnL, deepL]
    by_cases hd : 64 < d
    · rw [if_pos hd] at h
      cases h
    · rw [if_neg hd] at h ⊢
      cases hx : deepN x d with
      | some z =>
        rw [hx] at h
        cases h
      | none =>
        rw [hx] at h
        rw [turn_deepN x d hx]
        exact turn_deepL r d h
end
theorem checkR_iff {l : List Nd} : checkR l = 0 ↔ deepL l 1 = none ∧ stsR l = true := by
  unfold checkR
  cases deepL l 1 with
  | some x => simp
  | none =>
    cases stsR l <;> simp
theorem turn_check {l : List Nd} (h : checkR l = 0) : checkR (turnL l) = 0 :=
  checkR_iff.2 ⟨turn_deepL l 1 (checkR_iff.1 h).1, turn_stsR l (checkR_iff.1 h).2⟩
theorem turnW_len (s : List UInt8) : (turnW s).length ≤ s.length + 6 := by
  unfold turnW
  split
  · omega
  · rw [List.length_append]
    show 6 + _ ≤ _
    omega
mutual
theorem turn_wtN : ∀ x : Nd, wtN (turnN x) ≤ 7 * wtN x
  | .mk k n l p => by
    rw [turnN, wtN_mk, wtN_mk]
    have h1 := turn_wtL l
    have h2 := turnW_len n
    split <;> omega
theorem turn_wtL : ∀ l : List Nd, wtL (turnL l) ≤ 7 * wtL l
  | [] => by rw [turnL, wtL]; exact Nat.le_refl _
  | x :: r => by
    rw [turnL, wtL, wtL]
    have h1 := turn_wtN x
    have h2 := turn_wtL r
    omega
end
theorem turn_code {l : List Nd} (h : checkR l = 0) : codeR (turnL l) = ((codeR l).1, if (codeR l).1 = 0 then [] else turnW (codeR l).2) ∧ ((codeR l).1 = 0 → (codeR l).2 = []) := by
  unfold codeR
  rw [turn_evX (checkR_iff.1 h).2, turn_wrong]
  cases hw : wrongE (evX l) with
  | none => exact ⟨rfl, fun _ => rfl⟩
  | some x =>
    obtain ⟨c, n, p⟩ := x
    have := wrongX_two hw
    have h0 : ¬ c = 0 := by omega
    refine ⟨?_, fun h => absurd h h0⟩
    show (c, turnW n) = (c, if c = 0 then [] else turnW n)
    rw [if_neg h0]
def lessB (x : Nd) : Bool := decide (x.kind ≠ 7) && decide (x.kind ≠ 5) && decide (x.kind ≠ 6)
theorem less_sub : ∀ (l : List Nd) (ρ : Env) (m : Nat), stsR l = true → (evSs (l.filter lessB) ρ m).Sublist (evSs l ρ m)
  | [], _, _, _ => List.Sublist.refl _
  | x :: r, ρ, m, h => by
    obtain ⟨h1, h2⟩ := stsR_cons h
    rw [evSs]
    by_cases hx : lessB x = true
    · rw [List.filter_cons_of_pos hx, evSs]
      exact List.Sublist.append (List.Sublist.refl _) (less_sub r _ m h2)
    · rw [List.filter_cons_of_neg hx]
      have he : envS ρ x = ρ := by
        cases stC_of h1 with
        | set s x p => exact absurd rfl hx
        | module s l q b r p => exact absurd rfl hx
        | function s l q x p => exact absurd rfl hx
        | loop s x b r p => simp [envS]
        | cond x b r p => simp [envS]
        | cond2 x b r b' r' p => simp [envS]
        | call s l q p => simp [envS]
        | callB s l q b r p => simp [envS]
      rw [he]
      exact (less_sub r ρ m h2).trans (List.sublist_append_right _ _)
theorem wrong_sub {a b : List Ev} (h : a.Sublist b) (hb : wrongE b = none) : wrongE a = none := by
  induction h with
  | slnil => rfl
  | cons x h ih =>
    cases x with
    | call n => exact ih hb
    | miss n p => cases hb
    | bad c n p => cases hb
  | cons_cons x h ih =>
    cases x with
    | call n => exact ih hb
    | miss n p => cases hb
    | bad c n p => cases hb
theorem less_deep : ∀ (l : List Nd) (d : Nat), deepL l d = none → deepL (l.filter lessB) d = none
  | [], _, h => h
  | x :: r, d, h => by
    rw [deepL] at h
    by_cases hd : 64 < d
    · rw [if_pos hd] at h
      cases h
    rw [if_neg hd] at h
    cases hx : deepN x d with
    | some z =>
      rw [hx] at h
      cases h
    | none =>
      rw [hx] at h
      have := less_deep r d h
      by_cases hb : lessB x = true
      · rw [List.filter_cons_of_pos hb, deepL, if_neg hd, hx]
        exact this
      · rwa [List.filter_cons_of_neg hb]
theorem less_sts : ∀ (l : List Nd), stsR l = true → stsR (l.filter lessB) = true
  | [], h => h
  | x :: r, h => by
    obtain ⟨h1, h2⟩ := stsR_cons h
    have := less_sts r h2
    by_cases hb : lessB x = true
    · rw [List.filter_cons_of_pos hb, stsR, h1, this]
      rfl
    · rwa [List.filter_cons_of_neg hb]
theorem less_wt : ∀ (l : List Nd), wtL (l.filter lessB) ≤ wtL l
  | [] => Nat.le_refl _
  | x :: r => by
    have := less_wt r
    rw [wtL]
    by_cases hb : lessB x = true
    · rw [List.filter_cons_of_pos hb, wtL]
      omega
    · rw [List.filter_cons_of_neg hb]
      omega
theorem less_right {l : List Nd} (h : checkR l = 0) (hc : (codeR l).1 = 0) : checkR (l.filter lessB) = 0 ∧ wrongE (evX (l.filter lessB)) = none := by
  refine ⟨checkR_iff.2 ⟨less_deep l 1 (checkR_iff.1 h).1, less_sts l (checkR_iff.1 h).2⟩, wrong_sub (less_sub l [none] 0 (checkR_iff.1 h).2) ?_⟩
  unfold codeR at hc
  cases hw : wrongE (evX l) with
  | none => exact hw
  | some x =>
    obtain ⟨c, n, p⟩ := x
    rw [hw] at hc
    have := wrongX_two hw
    have hc : c = 0 := hc
    omega
def nmE : Ev → List UInt8
  | .call n => n
  | .miss n _ => n
  | .bad _ n _ => n
def NmL (N : Nat) (e : Ev) : Prop := (nmE e).length ≤ N
theorem dupE_nm (ρ : Env) (n : List UInt8) (p : Int) (N : Nat) (hn : n.length ≤ N) : ∀ e ∈ dupE ρ n p, NmL N e := by
  unfold dupE
  split <;> simp [NmL, nmE, hn]
theorem defE_nm (ρ : Env) (k : Nat) (n : List UInt8) (p : Int) (N : Nat) (hn : n.length ≤ N) : ∀ e ∈ defE ρ k n p, NmL N e := by
  unfold defE
  generalize ((if k = 1 then (fnB n).isSome else (mdB n).isSome) || (findE ρ k n true).isSome) = b
  cases b <;> simp [NmL, nmE, hn]
theorem exprE_nm (ρ : Env) (k : Int) (n : List UInt8) (kids : List Nd) (p : Int) (N : Nat) (hn : n.length ≤ N) : ∀ e ∈ exprE ρ k n kids p, NmL N e := by
  unfold exprE
  split
  · split <;> simp [NmL, nmE, hn]
  · split
    · split
      · simp [NmL, nmE, hn]
      · split <;> simp [NmL, nmE, hn]
    · simp
theorem callE_nm (ρ : Env) (d : Nat) (n : List UInt8) (kids : List Nd) (p : Int) (N : Nat) (hn : n.length ≤ N) : ∀ e ∈ callE ρ d n kids p, NmL N e := by
  unfold callE
  split
  · simp [NmL, nmE, hn]
  · split <;> simp [NmL, nmE, hn]
theorem parE_nm (N : Nat) : ∀ (l : List Nd) (ρ : Env), wtL l ≤ N → ∀ e ∈ parE ρ l, NmL N e
  | [], _, _, e, h => by simp [parE] at h
  | .mk _ n _ p :: r, ρ, hN, e, h => by
    rw [wtL, wtN_mk] at hN
    rw [parE, List.mem_append] at h
    rcases h with h | h
    · exact dupE_nm ρ n p N (by omega) e h
    · exact parE_nm N r _ (by omega) e h
mutual
theorem evE_nm (ρ : Env) (N : Nat) : ∀ x : Nd, wtN x ≤ N → ∀ e ∈ evE ρ x, NmL N e
  | .mk k n kids p, hN, e, h => by
    rw [wtN_mk] at hN
    rw [evE, List.mem_append] at h
    rcases h with h | h
    · exact exprE_nm ρ k n kids p N (by omega) e h
    · exact evEs_nm ρ N kids (by omega) e h
theorem evEs_nm (ρ : Env) (N : Nat) : ∀ l : List Nd, wtL l ≤ N → ∀ e ∈ evEs ρ l, NmL N e
  | [], _, e, h => by simp [evEs] at h
  | x :: r, hN, e, h => by
    rw [wtL] at hN
    rw [evEs, List.mem_append] at h
    rcases h with h | h
    · exact evE_nm ρ N x (by omega) e h
    · exact evEs_nm ρ N r (by omega) e h
end
mutual
theorem evS_nm (N : Nat) : ∀ (x : Nd) (ρ : Env) (d : Nat), wtN x ≤ N → ∀ e ∈ evS x ρ d, NmL N e
  | .mk k n kids p, ρ, d, hN, e, h => by
    rw [wtN_mk] at hN
    have hT := fun ρ d => evT_nm N kids ρ d (by omega) e
    have hb := body_wt kids
    have ht := take_wt kids
    have hn : n.length ≤ N := by omega
    rw [evS] at h
    split at h
    · rw [List.mem_append] at h
      rcases h with h | h
      · exact dupE_nm _ _ _ N hn _ h
      · exact evEs_nm _ N _ (by omega) _ h
    split at h
    · rw [List.mem_append, List.mem_append] at h
      rcases h with (h | h) | h
      · exact defE_nm _ _ _ _ N hn _ h
      · exact parE_nm N _ _ (by omega) _ h
      · exact hT _ _ h
    split at h
    · rw [List.mem_append, List.mem_append] at h
      rcases h with (h | h) | h
      · exact defE_nm _ _ _ _ N hn _ h
      · exact parE_nm N _ _ (by omega) _ h
      · exact evEs_nm _ N _ (by omega) _ h
    split at h
    · rw [List.mem_append, List.mem_append] at h
      rcases h with (h | h) | h
      · split at h
        · simp at h
          subst h
          exact hn
        · cases h
      · exact evEs_nm _ N _ (by omega) _ h
      · exact hT _ _ h
    split at h
    · rw [List.mem_append] at h
      rcases h with h | h
      · exact evEs_nm _ N _ (by omega) _ h
      · exact hT _ _ h
    · rw [List.mem_append, List.mem_append] at h
      rcases h with (h | h) | h
      · exact callE_nm _ _ _ _ _ N hn _ h
      · exact evEs_nm _ N _ (by omega) _ h
      · exact hT _ _ h
theorem evT_nm (N : Nat) : ∀ (l : List Nd) (ρ : Env) (d : Nat), wtL l ≤ N → ∀ e ∈ evT l ρ d, NmL N e
  | [], _, _, _, e, h => by simp [evT] at h
  | _ :: r, ρ, d, hN, e, h => by
    rw [wtL] at hN
    rw [evT] at h
    exact evBs_nm N r ρ d (by omega) e h
theorem evBs_nm (N : Nat) : ∀ (l : List Nd) (ρ : Env) (d : Nat), wtL l ≤ N → ∀ e ∈ evBs l ρ d, NmL N e
  | [], _, _, _, e, h => by simp [evBs] at h
  | x :: r, ρ, d, hN, e, h => by
    rw [wtL] at hN
    rw [evBs, List.mem_append] at h
    rcases h with h | h
    · exact evB_nm N x ρ d (by omega) e h
    · exact evBs_nm N r ρ d (by omega) e h
theorem evB_nm (N : Nat) : ∀ (x : Nd) (ρ : Env) (d : Nat), wtN x ≤ N → ∀ e ∈ evB x ρ d, NmL N e
  | .mk _ _ l _, ρ, d, hN, e, h => by
    rw [wtN_mk] at hN
    rw [evB] at h
    exact evSs_nm N l _ d (by omega) e h
theorem evSs_nm (N : Nat) : ∀ (l : List Nd) (ρ : Env) (d : Nat), wtL l ≤ N → ∀ e ∈ evSs l ρ d, NmL N e
  | [], _, _, _, e, h => by simp [evSs] at h
  | x :: r, ρ, d, hN, e, h => by
    rw [wtL] at hN
    rw [evSs, List.mem_append] at h
    rcases h with h | h
    · exact evS_nm N x ρ d (by omega) e h
    · exact evSs_nm N r _ d (by omega) e h
end
theorem wrongE_nm : ∀ {l : List Ev} {c : Int} {n : List UInt8} {p : Int} {N : Nat}, (∀ e ∈ l, NmL N e) → wrongE l = some (c, n, p) → n.length ≤ N
  | .call _ :: r, c, n, p, N, h, hw => wrongE_nm (l := r) (fun e he => h e (List.mem_cons_of_mem _ he)) hw
  | .miss _ _ :: _, c, n, p, N, h, hw => by
    cases hw
    exact h _ (List.mem_cons_self ..)
  | .bad _ _ _ :: _, c, n, p, N, h, hw => by
    cases hw
    exact h _ (List.mem_cons_self ..)
  | [], _, _, _, _, _, hw => by cases hw
theorem codeR_nm (l : List Nd) : (codeR l).2.length ≤ wtL l := by
  unfold codeR
  cases hw : wrongE (evX l) with
  | none => exact Nat.zero_le _
  | some x =>
    obtain ⟨c, n, p⟩ := x
    exact wrongE_nm (evSs_nm (wtL l) l [none] 0 (Nat.le_refl _)) hw
end Go.Proofs.YtpbkeamjdolpgaaGreatDoor
namespace Go.Proofs.YtpbkeamjdolpgaaGreatDoor
open Go.RowKit Go.Lib

set_option maxHeartbeats 4000000 in
set_option maxRecDepth 100000 in
theorem built_any (s : List UInt8) (w : World) : Calls Tryz.prog 38 #[.string ⟨s.toArray⟩] w fun e w' => e = .returned (.bool (builtB s)) ∧ Below w.heap.size w w' := by
  have HB : Hid (SRow (w.alloc (.cells #[.string ⟨#[116, 114, 117, 101]⟩, .string ⟨#[102, 97, 108, 115, 101]⟩, .string ⟨#[108, 101, 110]⟩, .string ⟨#[97, 98, 115]⟩, .string ⟨#[102, 108, 111, 111, 114]⟩, .string ⟨#[109, 105, 110]⟩, .string ⟨#[109, 97, 120]⟩, .string ⟨#[114, 97, 110, 103, 101]⟩, .string ⟨#[101, 109, 112, 116, 121]⟩, .string ⟨#[102, 117, 108, 108]⟩, .string ⟨#[104, 97, 108, 102]⟩, .string ⟨#[98, 111, 120]⟩, .string ⟨#[100, 111, 116, 115]⟩, .string ⟨#[100, 105, 97, 109, 111, 110, 100]⟩, .string ⟨#[99, 104, 105, 108, 100, 114, 101, 110]⟩, .string ⟨#[117, 110, 105, 111, 110]⟩, .string ⟨#[105, 110, 116, 101, 114, 115, 101, 99, 116, 105, 111, 110]⟩, .string ⟨#[100, 105, 102, 102, 101, 114, 101, 110, 99, 101]⟩, .string ⟨#[120, 111, 114]⟩, .string ⟨#[104, 117, 108, 108]⟩, .string ⟨#[109, 105, 110, 107, 111, 119, 115, 107, 105]⟩, .string ⟨#[99, 111, 109, 112, 108, 101, 109, 101, 110, 116]⟩, .string ⟨#[105, 110, 116, 101, 114, 105, 111, 114]⟩, .string ⟨#[99, 108, 111, 115, 117, 114, 101]⟩, .string ⟨#[98, 111, 117, 110, 100, 97, 114, 121]⟩, .string ⟨#[114, 101, 103, 117, 108, 97, 114]⟩, .string ⟨#[109, 111, 118, 101]⟩, .string ⟨#[115, 116, 114, 101, 116, 99, 104]⟩, .string ⟨#[109, 105, 114, 114, 111, 114]⟩, .string ⟨#[116, 117, 114, 110]⟩, .string ⟨#[109, 97, 112]⟩] 9)) w.heap.size bwords ∧ Below w.heap.size w (w.alloc (.cells #[.string ⟨#[116, 114, 117, 101]⟩, .string ⟨#[102, 97, 108, 115, 101]⟩, .string ⟨#[108, 101, 110]⟩, .string ⟨#[97, 98, 115]⟩, .string ⟨#[102, 108, 111, 111, 114]⟩, .string ⟨#[109, 105, 110]⟩, .string ⟨#[109, 97, 120]⟩, .string ⟨#[114, 97, 110, 103, 101]⟩, .string ⟨#[101, 109, 112, 116, 121]⟩, .string ⟨#[102, 117, 108, 108]⟩, .string ⟨#[104, 97, 108, 102]⟩, .string ⟨#[98, 111, 120]⟩, .string ⟨#[100, 111, 116, 115]⟩, .string ⟨#[100, 105, 97, 109, 111, 110, 100]⟩, .string ⟨#[99, 104, 105, 108, 100, 114, 101, 110]⟩, .string ⟨#[117, 110, 105, 111, 110]⟩, .string ⟨#[105, 110, 116, 101, 114, 115, 101, 99, 116, 105, 111, 110]⟩, .string ⟨#[100, 105, 102, 102, 101, 114, 101, 110, 99, 101]⟩, .string ⟨#[120, 111, 114]⟩, .string ⟨#[104, 117, 108, 108]⟩, .string ⟨#[109, 105, 110, 107, 111, 119, 115, 107, 105]⟩, .string ⟨#[99, 111, 109, 112, 108, 101, 109, 101, 110, 116]⟩, .string ⟨#[105, 110, 116, 101, 114, 105, 111, 114]⟩, .string ⟨#[99, 108, 111, 115, 117, 114, 101]⟩, .string ⟨#[98, 111, 117, 110, 100, 97, 114, 121]⟩, .string ⟨#[114, 101, 103, 117, 108, 97, 114]⟩, .string ⟨#[109, 111, 118, 101]⟩, .string ⟨#[115, 116, 114, 101, 116, 99, 104]⟩, .string ⟨#[109, 105, 114, 114, 111, 114]⟩, .string ⟨#[116, 117, 114, 110]⟩, .string ⟨#[109, 97, 112]⟩] 9))) := Lib.hid ⟨heap_alloc_new w _, (Below.refl _ _).alloc (Nat.le_refl _) _⟩
  go_enter Tryz.func38, Tryz.ntmps38
  go_upto_region 2 with (fail)
  generalize World.alloc w (.cells #[.string ⟨#[116, 114, 117, 101]⟩, .string ⟨#[102, 97, 108, 115, 101]⟩, .string ⟨#[108, 101, 110]⟩, .string ⟨#[97, 98, 115]⟩, .string ⟨#[102, 108, 111, 111, 114]⟩, .string ⟨#[109, 105, 110]⟩, .string ⟨#[109, 97, 120]⟩, .string ⟨#[114, 97, 110, 103, 101]⟩, .string ⟨#[101, 109, 112, 116, 121]⟩, .string ⟨#[102, 117, 108, 108]⟩, .string ⟨#[104, 97, 108, 102]⟩, .string ⟨#[98, 111, 120]⟩, .string ⟨#[100, 111, 116, 115]⟩, .string ⟨#[100, 105, 97, 109, 111, 110, 100]⟩, .string ⟨#[99, 104, 105, 108, 100, 114, 101, 110]⟩, .string ⟨#[117, 110, 105, 111, 110]⟩, .string ⟨#[105, 110, 116, 101, 114, 115, 101, 99, 116, 105, 111, 110]⟩, .string ⟨#[100, 105, 102, 102, 101, 114, 101, 110, 99, 101]⟩, .string ⟨#[120, 111, 114]⟩, .string ⟨#[104, 117, 108, 108]⟩, .string ⟨#[109, 105, 110, 107, 111, 119, 115, 107, 105]⟩, .string ⟨#[99, 111, 109, 112, 108, 101, 109, 101, 110, 116]⟩, .string ⟨#[105, 110, 116, 101, 114, 105, 111, 114]⟩, .string ⟨#[99, 108, 111, 115, 117, 114, 101]⟩, .string ⟨#[98, 111, 117, 110, 100, 97, 114, 121]⟩, .string ⟨#[114, 101, 103, 117, 108, 97, 114]⟩, .string ⟨#[109, 111, 118, 101]⟩, .string ⟨#[115, 116, 114, 101, 116, 99, 104]⟩, .string ⟨#[109, 105, 114, 114, 111, 114]⟩, .string ⟨#[116, 117, 114, 110]⟩, .string ⟨#[109, 97, 112]⟩] 9) = W at HB ⊢
  go_wp2_with fail
  go_loopg [4] 31 (fun g v wx => ∃ i : Nat, v = .int .i64 i ∧ i + g = 31 ∧ Hid (s ∉ bwords.take i) ∧ wx = W)
  case atStart => exact ⟨0, rfl, by omega, Lib.hid (by simp), rfl⟩
  case round =>
    obtain ⟨i, rfl, hi, hN, rfl⟩ := hrel
    by_cases hlt : i < 31
    · obtain ⟨x, hx⟩ : ∃ x, bwords[i]? = some x := ⟨bwords[i]'hlt, List.getElem?_eq_getElem _⟩
      have hc := HB.out.1.at_ hx
      have hlt' : (i : Int) < 31 := by omega
      have Qi1 : IntKind.i64.wrap ((i : Int) + 1) = (i : Int) + 1 := IntWalk.i64_in _ (by omega)
      have HX := Lib.hid hx
      clear hx
      by_cases hxs : x = s
      · have Q : (x == s) = true := by simp [hxs]
        have HV : Hid (builtB s = true) := Lib.hid (decide_eq_true (hxs ▸ List.mem_of_getElem? HX.out))
        clear hxs
        go_wp2_with fail
        go_ret
        exact ⟨by rw [HV.out]; rfl, HB.out.2⟩
      · have Q : (x == s) = false := by simp [hxs]
        have HV : Hid (s ∉ bwords.take (i + 1)) := Lib.hid (by
          rw [List.take_add_one, HX.out]
          intro h
          rcases List.mem_append.1 h with h | h
          · exact hN.out h
          · exact hxs (List.mem_singleton.1 h).symm)
        clear hxs
        go_wp2_with fail
        go_roundg (gk - 1)
        case measure => omega
        case rel => exact ⟨i + 1, rfl, by omega, HV, rfl⟩
    · have hlt' : ¬ (i : Int) < 31 := by omega
      have HV : Hid (builtB s = false) := Lib.hid (by
        have h1 := hN.out
        rw [List.take_of_length_le (by show 31 ≤ i; omega)] at h1
        exact decide_eq_false h1)
      go_wp2_with fail
      go_ret
      exact ⟨by rw [HV.out]; rfl, HB.out.2⟩
structure TMid (w0 : World) (k : Int) (n : List UInt8) (nm : List UInt8) (y : Option Addr) (K c : Nat) (p : Int) (v : Value) (acc : List Nd) (w : World) : Prop where
  o : Box4 w w0.heap.size (.int .i64 k) (.string ⟨n.toArray⟩) (.slice y K c) (.int .i64 p)
  z : Box4 w (w0.heap.size + 1) (.int .i64 0) (.string ⟨#[]⟩) (.slice none 0 0) (.int .i64 0)
  b : Box4 w (w0.heap.size + 1 + 1) (.int .i64 k) (.string ⟨nm.toArray⟩) v (.int .i64 p)
  row : RowOwn w (w0.heap.size + 3) v acc
  bel : Below w0.heap.size w0 w
section
variable {w0 w w' : World} {k : Int} {n nm : List UInt8} {y : Option Addr} {K c : Nat} {p : Int} {v : Value} {acc : List Nd}
theorem TMid.below (h : TMid w0 k n nm y K c p v acc w) (hb : Below w.heap.size w w') : TMid w0 k n nm y K c p v acc w' :=
  ⟨h.o.below hb, h.z.below hb, h.b.below hb, h.row.below hb, tr h.bel hb⟩
theorem TMid.name (h : TMid w0 k n nm y K c p v acc w) (nm' : List UInt8) : TMid w0 k n nm' y K c p v acc (w.setCell ⟨w0.heap.size + 1 + 1, 1, none⟩ (.string ⟨nm'.toArray⟩)) :=
  ⟨h.o.other (by omega), h.z.other (by omega), h.b.set1, h.row.ow ((Ow.refl (w0.heap.size + 1 + 1) w).setCell (.inl rfl) _) (Nat.lt_succ_self _), h.bel.setCell (p := ⟨w0.heap.size + 1 + 1, 1, none⟩) (by show w0.heap.size ≤ w0.heap.size + 1 + 1; omega) _⟩
theorem TMid.push {va : Option Addr} {m vc : Nat} {xs : List Value} {k' : Int} {n' : List UInt8} {kids : List Nd} {p' : Int} {y' : Option Addr} {c' : Cp kids.length} {w2 w6 : World} {g cap : Nat} (h : TMid w0 k n nm y K c p (.slice va m vc) acc w) (hm : acc.length = m) (hk : NdRow w (fun b => w0.heap.size + 3 ≤ b ∧ some b ≠ (Value.slice va m vc).ownBlock) kids y')
    (hfl : NFlat w (fun k => w0.heap.size + 3 ≤ k ∧ some k ≠ (Value.slice va m vc).ownBlock) acc xs) (hown : ∀ k, (Value.slice va m vc).ownBlock = some k → w0.heap.size + 3 ≤ k ∧ k < w.heap.size) (hw : Below w.heap.size w w2)
    (ho : w6.ownsRow (w0.heap.size + 3) 53 4 (.slice (some ⟨g, 0, none⟩) (m + 1) cap) (m + 1) (xs ++ [.int .i64 k', .string ⟨n'.toArray⟩, .slice y' kids.length c', .int .i64 p'])) (hgr : w2.grownBy w6 (Value.slice va m vc).ownBlock) (hat : (Value.slice va m vc).ownBlock = some g ∨ g = w2.heap.size) :
    TMid w0 k n nm y K c p (.slice (some ⟨g, 0, none⟩) (m + 1) cap) (acc ++ [.mk k' n' kids p']) (w6.setCell ⟨w0.heap.size + 1 + 1, 2, none⟩ (.slice (some ⟨g, 0, none⟩) (m + 1) cap)) := by
  have hlt := h.b.lt
  have hs2 := hw.size
  obtain ⟨h1, h2, h3, h4, h5⟩ := h
  have hbn : ∀ j, j ≤ w0.heap.size + 1 + 1 → some j ≠ (Value.slice va m vc).ownBlock := fun j hj e => by have := hown j e.symm; omega
  have hx : NFlat w2 (fun k => w0.heap.size + 3 ≤ k ∧ some k ≠ (Value.slice va m vc).ownBlock) acc xs := NFlat.mono (fun _ h _ => h) (fun j _ hj => hw.block j hj) hfl
  have hk2 : NdRow w2 (fun k => w0.heap.size + 3 ≤ k ∧ some k ≠ (Value.slice va m vc).ownBlock) kids y' := NdRow.mono (fun _ h _ => h) (fun j _ hj => hw.block j hj) _ _ hk
  have hr : RowOwn w6 (w0.heap.size + 3) (.slice (some ⟨g, 0, none⟩) (m + 1) cap) (acc ++ [.mk k' n' kids p']) := RowOwn.snoc hx hk2.cells (by rw [hm]; exact ho) hgr (hat.imp (fun e => by rw [e]; rfl) (fun e k hk => by
    have : g = k := by simpa [Value.ownBlock] using hk
    omega))
  have b6 : Below w0.heap.size w0 w6 := ⟨(hgr.os.trans hw.os).trans h5.os, (hgr.tape.trans hw.tape).trans h5.tape, (hgr.output.trans hw.output).trans h5.output, Nat.le_trans h5.size (Nat.le_trans hs2 hgr.size), fun j hj => by
    rw [hgr.block j (by have := h5.size; omega) (fun e => by have := hown j e.symm; omega), hw.block j (by have := h5.size; omega)]
    exact h5.block j hj⟩
  refine ⟨(keep_far (h1.below hw) hgr (hbn _ (by omega))).other (by omega), (keep_far (h2.below hw) hgr (hbn _ (by omega))).other (by omega), (keep_far (h3.below hw) hgr (hbn _ (by omega))).set2, hr.ow ((Ow.refl (w0.heap.size + 1 + 1) w6).setCell (.inl rfl) _) (Nat.lt_succ_self _), ?_⟩
  exact b6.setCell (p := ⟨w0.heap.size + 1 + 1, 2, none⟩) (by show w0.heap.size ≤ w0.heap.size + 1 + 1; omega) _
end
def TurnEnd (x : Nd) (w : World) (e : Ending) (w' : World) : Prop := ∃ v, e = .returned v ∧ NdVal w' (fun b => w.heap.size ≤ b) (turnN x) v ∧ Below w.heap.size w w'
def TurnOk (x : Nd) : Prop := ∀ (ok : Nat → Prop) (w : World) (v : Value), NdVal w ok x v → Calls Tryz.prog 35 #[v] w (TurnEnd x w)
set_option maxHeartbeats 4000000 in
set_option maxRecDepth 100000 in
theorem turned_step (k : Int) (n : List UInt8) (kids : List Nd) (p : Int) (hw : wtN (.mk k n kids p) < 2 ^ 38) (ih : ∀ x ∈ kids, TurnOk x) : TurnOk (.mk k n kids p) := by
  intro ok w v hv
  obtain ⟨y, cv, rfl, hrow⟩ := hv
  generalize cv.val = c
  clear cv
  obtain ⟨K, hK⟩ : ∃ K, kids.length = K := ⟨_, rfl⟩
  rw [hK]
  have HROW := Lib.hid hrow
  have HKK := Lib.hid hK
  have HIH := Lib.hid ih
  have HWT := Lib.hid hw
  obtain ⟨i0, hi0, hz0, hz1, hz2⟩ := info_parts Tryz.infoNode
  clear hrow hK ih hw
  have HM0 : Hid (TMid w k n n y K c p (.slice none 0 0) [] (((w.alloc (.cells #[.int .i64 k, .string ⟨n.toArray⟩, .slice y K c, .int .i64 p] 53)).alloc (.cells #[.int .i64 0, .string ⟨#[]⟩, .slice none 0 0, .int .i64 0] 53)).alloc (.cells #[.int .i64 k, .string ⟨n.toArray⟩, .slice none 0 0, .int .i64 p] 53))) := Lib.hid (by
    have b1 := Box4.new w (.int .i64 k) (.string ⟨n.toArray⟩) (.slice y K c) (.int .i64 p)
    have b2 := Box4.new (w.alloc (.cells #[.int .i64 k, .string ⟨n.toArray⟩, .slice y K c, .int .i64 p] 53)) (.int .i64 0) (.string ⟨#[]⟩) (.slice none 0 0) (.int .i64 0)
    have b3 := Box4.new ((w.alloc (.cells #[.int .i64 k, .string ⟨n.toArray⟩, .slice y K c, .int .i64 p] 53)).alloc (.cells #[.int .i64 0, .string ⟨#[]⟩, .slice none 0 0, .int .i64 0] 53)) (.int .i64 k) (.string ⟨n.toArray⟩) (.slice none 0 0) (.int .i64 p)
    simp only [World.size_alloc] at b2 b3
    exact ⟨(b1.alloc _).alloc _, b2.alloc _, b3, RowOwn.nil _ _, (((Below.refl _ _).alloc (Nat.le_refl _) _).alloc (by simp) _).alloc (by simp; omega) _⟩)
  have hKs : K < 2 ^ 38 := by
    have h1 := HWT.out
    rw [wtN_mk] at h1
    have h2 := len_wtL kids
    have h3 := HKK.out
    omega
  go_enter Tryz.func35, Tryz.ntmps35
  go_wp2_with fail
  generalize World.alloc (World.alloc (World.alloc w (.cells #[.int .i64 k, .string ⟨n.toArray⟩, .slice y K c, .int .i64 p] 53)) (.cells #[.int .i64 0, .string ⟨#[]⟩, .slice none 0 0, .int .i64 0] 53)) (.cells #[.int .i64 k, .string ⟨n.toArray⟩, .slice none 0 0, .int .i64 p] 53) = W at HM0 ⊢
  go_loopg [4] K (fun g v wx => ∃ (i : Nat) (va : Option Addr) (vc : Nat), v = .int .i64 i ∧ i + g = K ∧ TMid w k n n y K c p (.slice va i vc) (turnL (kids.take i)) wx)
  case atStart => exact ⟨0, none, 0, rfl, by omega, HM0.out⟩
  case round =>
    clear HM0
    obtain ⟨i, va, vc, rfl, hi, hm⟩ := hrel
    obtain ⟨x0, x1, x2, x3, xf⟩ := hm.o.facts
    by_cases hlt : i < K
    · obtain ⟨x, hx⟩ : ∃ x, kids[i]? = some x := ⟨kids[i]'(by have := HKK.out; omega), List.getElem?_eq_getElem _⟩
      have hmd : TMid w k n n y K c p (.slice va i vc) (turnL (kids.take i)) wr.drew := hm.below (Below.refl _ _).drew
      have hrowd : NdRow wr.drew (fun b => b < w.heap.size) kids y := NdRow.mono (fun b _ hb => hb) (fun b _ hb => hmd.bel.block b hb) _ _ HROW.out
      obtain ⟨B, o, rfl, hat⟩ := hrowd.at_ hx
      obtain ⟨k1, n1, l1, p1⟩ := x
      obtain ⟨-, z0, z1, z3, y1, c1, z2, hk1⟩ := hat
      have cT := HIH.out (.mk k1 n1 l1 p1) (List.mem_of_getElem? hx) _ wr.drew (.agg #[.int .i64 k1, .string ⟨n1.toArray⟩, .slice y1 l1.length c1, .int .i64 p1]) ⟨y1, c1, rfl, hk1⟩
      have HTK : Hid (turnL (kids.take (i + 1)) = turnL (kids.take i) ++ [turnN (.mk k1 n1 l1 p1)]) := Lib.hid (by
        rw [List.take_add_one, hx, turnL_map, turnL_map, List.map_append]
        rfl)
      obtain ⟨_, _, m2, _, mf⟩ := hmd.b.facts
      obtain ⟨x0, x1, x2, x3, xf⟩ := hmd.o.facts
      have HM := Lib.hid hmd
      have hlt' : (i : Int) < (K : Int) := by omega
      have Qi1 : IntKind.i64.wrap ((i : Int) + 1) = (i : Int) + 1 := IntWalk.i64_in _ (by omega)
      have hml : (turnL (kids.take i)).length = i := by rw [turnL_len, List.length_take, HKK.out]; omega
      have hms : i < 2 ^ 38 := by omega
      have HML := Lib.hid hml
      clear hm hmd hx hrowd hk1 hml
      obtain ⟨nm1, hnm1⟩ : ∃ nm, (if turnK k1 then turnW n1 else n1) = nm := ⟨_, rfl⟩
      obtain ⟨l2, hl2⟩ : ∃ l2, turnL l1 = l2 := ⟨_, rfl⟩
      have hTN : turnN (.mk k1 n1 l1 p1) = .mk k1 nm1 l2 p1 := by rw [turnN, hnm1, hl2]
      have cU : Calls Tryz.prog 35 #[.agg #[.int .i64 k1, .string ⟨n1.toArray⟩, .slice y1 l1.length c1, .int .i64 p1]] wr.drew fun e w' => ∃ y' : Option Addr, ∃ c' : Cp l2.length, e = .returned (.agg #[.int .i64 k1, .string ⟨nm1.toArray⟩, .slice y' l2.length c', .int .i64 p1]) ∧ NdRow w' (fun b => wr.drew.heap.size ≤ b) l2 y' ∧ Below wr.drew.heap.size wr.drew w' := cT.mono (by
        rintro e w' ⟨v, rfl, hv, hb⟩
        rw [hTN] at hv
        obtain ⟨y', c', rfl, hk⟩ := hv
        exact ⟨y', c', rfl, hk, hb⟩)
      have HTN := Lib.hid hTN
      have HLT0 : Hid (∀ j, (Value.slice va i vc).ownBlock = some j → w.heap.size + 3 ≤ j ∧ j < wr.drew.heap.size) := by
        obtain ⟨xs0, h0, -⟩ := HM.out.row
        exact h0.lt
      have HBLT : Hid (w.heap.size + 1 + 1 < wr.drew.heap.size) := HM.out.b.lt
      clear cT hTN hnm1 hl2
      go_wp2_with fail
      go_region_law (first | (go_simp; go_at_call 35; (with_reducible refine cU.mono ?_); rintro e w5 ⟨y', c', rfl, hk5, hb5⟩; have hm5 := HM.out.below hb5; obtain ⟨_, _, b2, _, bf⟩ := hm5.b.facts; have b2o := fun o => al_cell b2 o; have hl1 := hm5.b.lt; obtain ⟨xs, hown, hfl⟩ := hm5.row; rw [HML.out] at hown; have HOWN := Lib.hid (hown.alloc (.cells #[.int .i64 k1, .string ⟨nm1.toArray⟩, .slice y' l2.length c', .int .i64 p1] 53)); have HLT := Lib.hid hown.lt; have HCZ := Lib.hid (cell_four_new w5 (.int .i64 k1) (.string ⟨nm1.toArray⟩) (.slice y' l2.length c') (.int .i64 p1) 53); have hz5 : (w5.alloc (.cells #[.int .i64 k1, .string ⟨nm1.toArray⟩, .slice y' l2.length c', .int .i64 p1] 53)).heap.size = w5.heap.size + 1 := World.size_alloc _ _; have HB1 := Lib.hid (hm5.b.alloc (.cells #[.int .i64 k1, .string ⟨nm1.toArray⟩, .slice y' l2.length c', .int .i64 p1] 53)); have HBN : Hid (some (w.heap.size + 1 + 1) ≠ (Value.slice va i vc).ownBlock) := (fun e => by have := hown.lt _ e.symm; omega); have HFL := Lib.hid hfl; have HM5 := Lib.hid hm5; have HK5 := Lib.hid hk5; clear hm5 hk5 hown hfl hb5) | (refine step_append_lies _ rfl (.tmp 15) (.tmp 22) 22 rfl (w.heap.size + 3) 53 i0 (.agg #[.int .i64 0, .string ⟨#[]⟩, .slice none 0 0, .int .i64 0]) 4 56 Tryz.underlying22 hi0 hz0 hz1 hz2 rfl (by decide) (.slice va i vc) i xs (by simp [Act.eval]) HOWN.out ⟨w5.heap.size, 0, none⟩ 1 1 [.int .i64 k1, .string ⟨nm1.toArray⟩, .slice y' l2.length c', .int .i64 p1] (by simp [Act.eval]) rfl HCZ.out (fun x hx => by simp at hx; rcases hx with rfl | rfl | rfl | rfl <;> rfl) (by omega) (by unfold maxLen; omega) (by omega) (by omega) _ rfl ?_; intro g cap w6 hown' hgrow hat hlt; obtain ⟨_, _, d2, _, df⟩ := (keep_far HB1.out hgrow HBN.out).facts; have HO := Lib.hid hown'; have HG := Lib.hid hgrow; clear hown' hgrow))
      all_goals (
        have hpush := HM5.out.push HML.out (HK5.out.wide fun b h1 h2 => ⟨by have := HBLT.out; omega, fun e => by have := (HLT0.out b e.symm).2; omega⟩) HFL.out HLT.out ((Below.refl _ _).alloc (Nat.le_refl _) _) HO.out HG.out hat
        rw [← HTN.out, ← HTK.out] at hpush
        have HP := Lib.hid hpush
        clear hpush d2 df b2 b2o bf HB1 HBN HOWN HCZ m2 mf cU
        go_wp2_with fail
        go_roundg (gk - 1)
        case measure => omega
        case rel => exact ⟨i + 1, _, cap, rfl, by omega, HP.out⟩)
    · have hlt' : ¬ (i : Int) < (K : Int) := by omega
      obtain rfl : i = K := by omega
      have HM : Hid (TMid w k n n y i c p (.slice va i vc) (turnL kids) wr) := Lib.hid (by
        rwa [List.take_of_length_le (by have := HKK.out; omega)] at hm)
      clear hm x0 x1 x2 x3 xf hlt hi
      obtain ⟨NM, hNM⟩ : ∃ NM, (if turnK k then turnW n else n) = NM := ⟨_, rfl⟩
      have HNM := Lib.hid hNM
      clear hNM
      obtain ⟨x0, x1, x2, x3, xf⟩ := HM.out.o.facts
      go_upto_block 2 with (fail)
      clear x0 x1 x2 x3 xf
      go_cut [] from 27 to 42 (fun wx => TMid w k n NM y i c p (.slice va i vc) (turnL kids) wx)
      case first =>
        obtain ⟨x0, x1, x2, x3, xf⟩ := HM.out.o.facts
        by_cases hT : turnK k = true
        · have HNW : Hid (NM = turnW n) := Lib.hid (by rw [← HNM.out, if_pos hT])
          have cb := built_any n wr
          obtain ⟨BT, hBT⟩ : ∃ B, builtB n = B := ⟨_, rfl⟩
          rw [hBT] at cb
          have HBT := Lib.hid hBT
          clear hBT
          have f1 : ∀ W, (Op.stringOp .add ⟨#[111, 116, 104, 101, 114, 95]⟩ ⟨n.toArray⟩).run Tryz.prog W = .ok (.string ⟨(wOther ++ n).toArray⟩) W := cat_run wOther n _ rfl (by
            have h1 := HWT.out
            rw [wtN_mk] at h1
            show 6 + n.length ≤ _
            omega)
          have hk7 : k = 1 ∨ k = 2 ∨ k = 3 ∨ k = 5 ∨ k = 7 ∨ k = 13 ∨ k = 10 := by
            simpa [turnK, or_assoc] using hT
          clear hT
          rcases hk7 with rfl | rfl | rfl | rfl | rfl | rfl | rfl
          all_goals (
            go_wp2_with fail
            refine cb.mono ?_
            clear cb x0 x1 x2 x3 xf
            rintro e w5 ⟨rfl, hb5⟩
            have HM5 := Lib.hid (HM.out.below hb5)
            clear hb5
            cases BT
            · have HV : Hid (NM = wOther ++ n) := Lib.hid (by rw [HNW.out]; unfold turnW; rw [if_neg (by rw [HBT.out]; decide)])
              obtain ⟨x0, x1, x2, x3, xf⟩ := HM5.out.o.facts
              obtain ⟨y0, y1, y2, y3, yf⟩ := HM5.out.b.facts
              have yf1 := yf 1
              go_wp2_with fail
              go_meet
              rw [HV.out]
              exact HM5.out.name _
            · have HV : Hid (NM = n) := Lib.hid (by rw [HNW.out]; unfold turnW; rw [if_pos HBT.out])
              clear f1
              go_wp2_with fail
              go_meet
              rw [HV.out]
              exact HM5.out)
        · have HV : Hid (NM = n) := Lib.hid (by rw [← HNM.out, if_neg hT])
          have hk7 : k ≠ 1 ∧ k ≠ 2 ∧ k ≠ 3 ∧ k ≠ 5 ∧ k ≠ 7 ∧ k ≠ 13 ∧ k ≠ 10 := by
            simpa [turnK, and_assoc] using hT
          obtain ⟨q1, q2, q3, q5, q7, q13, q10⟩ := hk7
          have Q1 : (k == 1) = false := beq_eq_false_iff_ne.2 q1
          have Q2 : (k == 2) = false := beq_eq_false_iff_ne.2 q2
          have Q3 : (k == 3) = false := beq_eq_false_iff_ne.2 q3
          have Q5 : (k == 5) = false := beq_eq_false_iff_ne.2 q5
          have Q7 : (k == 7) = false := beq_eq_false_iff_ne.2 q7
          have Q13 : (k == 13) = false := beq_eq_false_iff_ne.2 q13
          have Q10 : (k == 10) = false := beq_eq_false_iff_ne.2 q10
          clear hT q1 q2 q3 q5 q7 q13 q10
          go_wp2_with fail
          go_meet
          rw [HV.out]
          exact HM.out
      case rest =>
        clear HM
        have HM := Lib.hid hcut
        obtain ⟨y0, y1, y2, y3, yf⟩ := hcut.b.facts
        obtain ⟨z0, z1, z2, z3, zf⟩ := hcut.z.facts
        clear hcut
        go_wp2_with fail
        obtain ⟨u0, u1, u2, u3, -⟩ := (HM.out.z.set4 (u0 := .int .i64 k) (u1 := .string ⟨NM.toArray⟩) (u2 := .slice va i vc) (u3 := .int .i64 p)).facts
        have hend : TurnEnd (.mk k n kids p) w (.returned (.agg #[.int .i64 k, .string ⟨NM.toArray⟩, .slice va i vc, .int .i64 p])) ((((wc.setCell ⟨w.heap.size + 1, 0, none⟩ (.int .i64 k)).setCell ⟨w.heap.size + 1, 1, none⟩ (.string ⟨NM.toArray⟩)).setCell ⟨w.heap.size + 1, 2, none⟩ (.slice va i vc)).setCell ⟨w.heap.size + 1, 3, none⟩ (.int .i64 p)) := by
          have hl : w.heap.size ≤ w.heap.size + 1 := Nat.le_succ _
          refine ⟨_, rfl, ?_, (((HM.out.bel.setCell (p := ⟨w.heap.size + 1, 0, none⟩) hl _).setCell (p := ⟨w.heap.size + 1, 1, none⟩) hl _).setCell (p := ⟨w.heap.size + 1, 2, none⟩) hl _).setCell (p := ⟨w.heap.size + 1, 3, none⟩) hl _⟩
          have hrow := HM.out.row.ow ((((((Ow.refl (w.heap.size + 1) wc).setCell (a := ⟨w.heap.size + 1, 0, none⟩) (.inl rfl) (.int .i64 k)).setCell (a := ⟨w.heap.size + 1, 1, none⟩) (.inl rfl) (.string ⟨NM.toArray⟩)).setCell (a := ⟨w.heap.size + 1, 2, none⟩) (.inl rfl) (.slice va i vc)).setCell (a := ⟨w.heap.size + 1, 3, none⟩) (.inl rfl) (.int .i64 p))) (by omega)
          obtain ⟨a, c2, he, hc2, hr⟩ := hrow.shape
          have hln : (turnL kids).length = i := by rw [turnL_len]; exact HKK.out
          rw [hln] at he
          cases he
          rw [turnN, HNM.out]
          refine ⟨va, ⟨vc, hc2⟩, ?_, hr.wide fun b h1 _ => by omega⟩
          show Value.agg #[.int .i64 k, .string ⟨NM.toArray⟩, .slice va i vc, .int .i64 p] = Value.agg #[.int .i64 k, .string ⟨NM.toArray⟩, .slice va (turnL kids).length vc, .int .i64 p]
          rw [hln]
        exact ret_node rfl rfl rfl u0 u1 u2 u3 hend
theorem turned_any : ∀ (N : Nat) (x : Nd), wtN x < N → wtN x < 2 ^ 38 → TurnOk x
  | N + 1, .mk k n kids p, hN, hs => turned_step k n kids p hs fun x hx => by
    rw [wtN_mk] at hN hs
    have := wtL_mem hx
    exact turned_any N x (by omega) (by omega)
end Go.Proofs.YtpbkeamjdolpgaaGreatDoor
namespace Go.Proofs.YtpbkeamjdolpgaaGreatDoor
open Go.RowKit Go.Lib

theorem below_grow {B : Nat} {a w w1 : World} {row : Option Nat} (h : Below B a w) (hB : B ≤ a.heap.size) (hg : w.grownBy w1 row) (hr : ∀ k, row = some k → B ≤ k) : Below B a w1 :=
  ⟨hg.os.trans h.os, hg.tape.trans h.tape, hg.output.trans h.output, Nat.le_trans h.size hg.size, fun j hj => by
    rw [hg.block j (by have := h.size; omega) (fun e => by have := hr j e.symm; omega)]
    exact h.block j hj⟩
theorem row_flat {w : World} {B : Nat} {v : Value} {l : List Nd} {xs : List Value} {ok ok' : Nat → Prop} (h1 : w.ownsRow B 53 4 v l.length xs) (h2 : NFlat w ok l xs) (hB : ∀ k, B ≤ k → k < w.heap.size → ok' k) (hok : ∀ k, ok k → k < w.heap.size → ok' k) :
    ∃ a c, v = .slice a l.length c ∧ l.length ≤ c ∧ NdRow w ok' l a := by
  rcases h1.2 with ⟨h3, h4⟩ | ⟨g, cap, cur, h4, h5, h6, h7, h8, h9, h10⟩
  · have hl : l = [] := List.length_eq_zero_iff.1 h4
    subst hl
    exact ⟨none, 0, h3, Nat.le_refl _, trivial⟩
  · refine ⟨some ⟨g, 0, none⟩, cap, h4, h7, ?_⟩
    have h2' := NFlat.mono (w' := w) (ok' := ok') hok (fun _ _ _ => rfl) h2
    refine NFlat.row (b := g) (hB g h5 (Array.getElem?_eq_some_iff.1 h6).1) (fun q => by simp [World.frozen?, h6]) 0 rfl h2' fun j u hj => ?_
    have := h1.cells (g := g) (by rw [h4]; rfl) j u hj
    simpa [Addr.add_lit] using this
theorem less_take (l : List Nd) (i : Nat) (x : Nd) (hx : l[i]? = some x) : (l.take (i + 1)).filter lessB = if lessB x then (l.take i).filter lessB ++ [x] else (l.take i).filter lessB := by
  rw [List.take_add_one, hx, List.filter_append]
  show _ ++ List.filter lessB [x] = _
  by_cases hb : lessB x = true
  · rw [if_pos hb, List.filter_cons_of_pos hb]
    rfl
  · rw [if_neg hb, List.filter_cons_of_neg hb]
    simp
set_option maxHeartbeats 8000000 in
set_option maxRecDepth 100000 in
theorem scopeNames_any (s : ByteArray) (_hs : s.size < 2 ^ 62) (w : World) (hGE : Gl w ∧ GlE w) :
    Calls Tryz.prog 11 #[.string s] w fun e w' => e = .returned (.bool true) ∧ Below w.heap.size w w' := by
  obtain ⟨hG, hE⟩ := hGE
  have c0 := parse_any s w hG
  obtain ⟨P, hP⟩ : ∃ P, parseR s.data.toList = P := ⟨_, rfl⟩
  rw [hP] at c0
  have HP := Lib.hid hP
  have HG := Lib.hid hG
  have HE := Lib.hid hE
  obtain ⟨i0, hi0, hz0, hz1, hz2⟩ := info_parts Tryz.infoNode
  clear hP hG hE
  go_enter Tryz.func11, Tryz.ntmps11
  go_wp2_with fail
  refine c0.mono ?_
  clear c0
  cases P with
  | error f =>
    rintro e w1 ⟨hb1, b, hb, rfl, hf⟩
    have cw := swakes_any w1 (HG.out.below hb1) (HE.out.below hb1)
    have HB1 := Lib.hid hb1
    clear hb1 hb hf hi0 hz0 hz1 hz2
    go_wp2_with fail
    refine cw.mono ?_
    clear cw
    rintro e w2 ⟨rfl, hb2⟩
    have HB2 := Lib.hid (HB1.out.trans (hb2.mono HB1.out.size))
    clear hb2
    go_wp2_with fail
    go_ret
    exact ⟨rfl, HB2.out⟩
  | ok l =>
    rintro e w1 ⟨hb1, y, c, rfl, hrow, -⟩
    obtain ⟨k1, k2⟩ := parse_right HP.out
    have HB1 := Lib.hid hb1
    have HROW := Lib.hid (hrow.wide (ok' := fun k => k < w1.heap.size) fun k _ hk => hk)
    have HW := Lib.hid k2
    have HC := Lib.hid k1
    obtain ⟨K, hK⟩ : ∃ K, l.length = K := ⟨_, rfl⟩
    have HKK := Lib.hid hK
    rw [hK]
    have hKs : K < 2 ^ 30 := by
      have := len_wtL l
      omega
    have HG1 : Hid (∀ w2, Below w1.heap.size w1 w2 → Gl w2 ∧ GlE w2 ∧ NdRow w2 (fun k => k < w1.heap.size) l y ∧ Below w.heap.size w w2) := Lib.hid fun w2 hb => ⟨(HG.out.below HB1.out).below hb, (HE.out.below HB1.out).below hb, HROW.out.below hb, tr HB1.out hb⟩
    clear hb1 k1 k2 hK hrow HG HE HB1
    go_wp2_with fail
    go_loopg [5, 6] K (fun g v5 v6 wx => ∃ i : Nat, v6 = .int .i64 i ∧ i + g = K ∧ RowOwn wx w1.heap.size v5 (turnL (l.take i)) ∧ Below w1.heap.size w1 wx)
    case atStart => exact ⟨0, rfl, by omega, RowOwn.nil _ _, Below.refl _ _⟩
    case round =>
      obtain ⟨i, rfl, hi, hrow, hbel⟩ := hrel
      obtain ⟨va, vc, rfl, -, -⟩ := hrow.shape
      have hal : (turnL (l.take i)).length = i := by rw [turnL_len, List.length_take, HKK.out]; omega
      by_cases hlt : i < K
      · obtain ⟨x, hx⟩ : ∃ x, l[i]? = some x := ⟨l[i]'(by have := HKK.out; omega), List.getElem?_eq_getElem _⟩
        obtain ⟨B, o, rfl, hat⟩ := (HG1.out _ hbel).2.2.1.at_ hx
        have hmem := List.mem_of_getElem? hx
        obtain ⟨k1, n1, l1, p1⟩ := x
        obtain ⟨-, z0, z1, z3, y1, c1, z2, hk1⟩ := hat
        have cT := turned_any (wtN (.mk k1 n1 l1 p1) + 1) (.mk k1 n1 l1 p1) (Nat.lt_succ_self _) (by have := wtL_mem hmem; have := HW.out; omega) _ wr (.agg #[.int .i64 k1, .string ⟨n1.toArray⟩, .slice y1 l1.length c1, .int .i64 p1]) ⟨y1, c1, rfl, hk1⟩
        have HTK : Hid (turnL (l.take (i + 1)) = turnL (l.take i) ++ [turnN (.mk k1 n1 l1 p1)]) := Lib.hid (by
          rw [List.take_add_one, hx, turnL_map, turnL_map, List.map_append]
          rfl)
        obtain ⟨nm1, hnm1⟩ : ∃ nm, (if turnK k1 then turnW n1 else n1) = nm := ⟨_, rfl⟩
        obtain ⟨l2, hl2⟩ : ∃ l2, turnL l1 = l2 := ⟨_, rfl⟩
        have hTN : turnN (.mk k1 n1 l1 p1) = .mk k1 nm1 l2 p1 := by rw [turnN, hnm1, hl2]
        have cU : Calls Tryz.prog 35 #[.agg #[.int .i64 k1, .string ⟨n1.toArray⟩, .slice y1 l1.length c1, .int .i64 p1]] wr fun e w' => ∃ y' : Option Addr, ∃ c' : Cp l2.length, e = .returned (.agg #[.int .i64 k1, .string ⟨nm1.toArray⟩, .slice y' l2.length c', .int .i64 p1]) ∧ NdRow w' (fun b => wr.heap.size ≤ b) l2 y' ∧ Below wr.heap.size wr w' := cT.mono (by
          rintro e w' ⟨v, rfl, hv, hb⟩
          rw [hTN] at hv
          obtain ⟨y', c', rfl, hk⟩ := hv
          exact ⟨y', c', rfl, hk, hb⟩)
        have HTN := Lib.hid hTN
        have HROWM := Lib.hid hrow
        have HBEL := Lib.hid hbel
        have hbs := hbel.size
        have hlt' : (i : Int) < (K : Int) := by omega
        have Qi1 : IntKind.i64.wrap ((i : Int) + 1) = (i : Int) + 1 := IntWalk.i64_in _ (by omega)
        clear cT hTN hnm1 hl2 hx hk1 hmem hrow hbel
        rw [hal]
        have HAL := Lib.hid hal
        clear hal
        go_wp2_with (first | (go_at_call 35; (with_reducible refine cU.mono ?_); rintro e w5 ⟨y', c', rfl, hk5, hb5⟩) | (at_builtin; obtain ⟨xs, hown5, hfl5⟩ := HROWM.out.below hb5; rw [HAL.out] at hown5 hfl5; refine wpList_append_fresh _ rfl (.tmp 27) (.tmp 33) 22 rfl w1.heap.size 53 i0 (.agg #[.int .i64 0, .string ⟨#[]⟩, .slice none 0 0, .int .i64 0]) 4 56 Tryz.underlying22 hi0 hz0 hz1 hz2 rfl (by decide) _ _ _ rfl (hown5.alloc _) ⟨w5.heap.size, 0, none⟩ 1 1 [.int .i64 k1, .string ⟨nm1.toArray⟩, .slice y' l2.length c', .int .i64 p1] rfl rfl (cell_four_new _ _ _ _ _ _) (fun x hx => by simp at hx; rcases hx with rfl | rfl | rfl | rfl <;> rfl) (by unfold maxLen; omega) (by omega) (by have := hb5.size; simp; omega) ?_; intro v' w6 hown' hgrow hfresh))
        have HBA : Hid (Below w1.heap.size w1 (w5.alloc (.cells #[.int .i64 k1, .string ⟨nm1.toArray⟩, .slice y' l2.length c', .int .i64 p1] 53))) := Lib.hid ((tr HBEL.out hb5).alloc (tr HBEL.out hb5).size _)
        have hlt5 := fun j hj => ((hown5.alloc (.cells #[.int .i64 k1, .string ⟨nm1.toArray⟩, .slice y' l2.length c', .int .i64 p1] 53)).lt j hj).1
        have HNEW : Hid (RowOwn w6 w1.heap.size v' (turnL (l.take (i + 1)))) := Lib.hid (by
          rw [HTK.out, HTN.out]
          refine RowOwn.snoc (a := [.int .i64 k1, .string ⟨nm1.toArray⟩, .slice y' l2.length c', .int .i64 p1]) (v := .slice va i vc) (NFlat.mono (fun b h1 _ => h1) (fun b _ h2 => Below.heap_alloc _ _ b h2) hfl5) ⟨y', c', rfl, ?_⟩ (by rw [HAL.out]; exact hown') hgrow hfresh
          refine NdRow.mono (fun b h1 h2 => ⟨by omega, fun e => ?_⟩) (fun b _ h2 => Below.heap_alloc _ _ b h2) _ _ hk5
          obtain ⟨xs3, hown3, _⟩ := HROWM.out
          have := (hown3.lt b (by rw [HAL.out]; exact e.symm)).2
          omega)
        have HB6 : Hid (Below w1.heap.size w1 w6) := Lib.hid (below_grow HBA.out (Nat.le_refl _) hgrow hlt5)
        clear hown5 hfl5 hown' hgrow hfresh hlt5 hk5 hb5 HBA
        go_wp2_with fail
        go_roundg (gk - 1)
        case measure => omega
        case rel => exact ⟨i + 1, rfl, by omega, HNEW.out, HB6.out⟩
      · have hlt' : ¬ (i : Int) < (K : Int) := by omega
        obtain rfl : i = K := by omega
        rw [List.take_of_length_le (by have := HKK.out; omega)] at hrow hal
        rw [show (turnL (l.take i)).length = i by rw [List.take_of_length_le (by have := HKK.out; omega)]; exact hal]
        have HROWM := Lib.hid hrow
        have HAL := Lib.hid hal
        have HBEL := Lib.hid hbel
        have HTC := Lib.hid (turn_check HC.out)
        have HTW : Hid (wtL (turnL l) < 2 ^ 38) := Lib.hid (by have := turn_wtL l; have := HW.out; omega)
        have HCD := Lib.hid (turn_code HC.out)
        obtain ⟨hG2, hE2, hr2, -⟩ := HG1.out _ hbel
        have c3 := scheck_any l (by have := HW.out; omega) _ y c wr hG2 hr2 (fun b h => Nat.lt_of_lt_of_le h hbel.size)
        rw [HKK.out] at c3
        clear hrow hal hbel hG2 hE2 hr2 hlt hi
        go_wp2_with fail
        refine c3.mono ?_
        clear c3
        intro e w4 hend
        obtain ⟨v4, rfl, hcode⟩ := code_any hend HC.out
        have HB4 := Lib.hid (tr HBEL.out hend.1)
        have HROW4 := Lib.hid (HROWM.out.below hend.1)
        have c4 := hcode w4 (Below.refl _ _) (HG1.out _ HB4.out).2.1
        clear hend hcode
        go_wp2_with fail
        refine c4.mono ?_
        clear c4
        rintro e w5 ⟨rfl, hb5⟩
        have HB5 := Lib.hid (tr HB4.out hb5)
        have HROW5 := Lib.hid (HROW4.out.below hb5)
        obtain ⟨va', vc', hva, hvc, hr5⟩ := HROW5.out.shape
        rw [HAL.out] at hva
        cases hva
        obtain ⟨hG5, hE5, -, -⟩ := HG1.out _ HB5.out
        have c5 := scheck_any (turnL l) HTW.out (fun b => b < w5.heap.size) va vc w5 hG5 (hr5.wide fun b _ hb => hb) (fun b h => h)
        rw [HAL.out] at c5
        clear hb5 hr5 hG5 hE5 HROW4 HROWM
        go_wp2_with fail
        refine c5.mono ?_
        clear c5
        intro e w6 hend
        obtain ⟨v6, rfl, hcode⟩ := code_any hend HTC.out
        have HB6 := Lib.hid (tr HB5.out hend.1)
        have c6 := hcode w6 (Below.refl _ _) (HG1.out _ HB6.out).2.1
        obtain ⟨A, hA⟩ : ∃ A, (codeR l).1 = A := ⟨_, rfl⟩
        obtain ⟨X, hX⟩ : ∃ X, (codeR l).2 = X := ⟨_, rfl⟩
        rw [HCD.out.1, hA, hX] at c6
        have HA := Lib.hid hA
        have HXX := Lib.hid hX
        rw [hA, hX]
        obtain ⟨Y, hY⟩ : ∃ Y, (if A = 0 then [] else turnW X) = Y := ⟨_, rfl⟩
        have HY := Lib.hid hY
        dsimp only at c6
        rw [hY] at c6
        clear hend hcode hA hX hY HROW5
        go_wp2_with fail
        refine c6.mono ?_
        clear c6
        rintro e w7 ⟨rfl, hb7⟩
        have HB7 := Lib.hid (tr HB6.out hb7)
        clear hb7
        go_upto_region 11 with (fail)
        go_cut [86] from 47 to 86 (fun v wx => v = .bool false ∧ Below w7.heap.size w7 wx)
        case first =>
          by_cases hA0 : A = 0
          · have hX0 : X = [] := by
              have h1 := HCD.out.2
              rw [HA.out, HXX.out] at h1
              exact h1 hA0
            have hY0 : Y = [] := by rw [← HY.out, if_pos hA0]
            subst hA0 hX0 hY0
            go_wp2_with fail
            go_meet
            exact ⟨rfl, Below.refl _ _⟩
          · have hY0 : Y = turnW X := by rw [← HY.out, if_neg hA0]
            have Q0 : (A == 0) = false := beq_eq_false_iff_ne.2 hA0
            have Q1 : (A != 0) = true := by simp [hA0]
            have cB := fun W => built_any X W
            obtain ⟨BX, hBX⟩ : ∃ B, builtB X = B := ⟨_, rfl⟩
            rw [hBX] at cB
            cases BX
            · have hY1 : Y = wOther ++ X := by rw [hY0]; unfold turnW; rw [if_neg (by rw [hBX]; decide)]
              have f1 : ∀ W, (Op.stringOp .add ⟨#[111, 116, 104, 101, 114, 95]⟩ ⟨X.toArray⟩).run Tryz.prog W = .ok (.string ⟨Y.toArray⟩) W := cat_run wOther X Y hY1 (by
                have h1 := codeR_nm l
                rw [HXX.out] at h1
                have h2 := HW.out
                show 6 + X.length ≤ _
                omega)
              clear hY0 hY1 hBX
              have cB1 := cB w7
              go_wp2_with fail
              refine cB1.mono ?_
              clear cB1
              rintro e w8 ⟨rfl, hb8⟩
              have HB8 := Lib.hid hb8
              have cB2 := cB w8
              clear hb8 cB
              go_wp2_with fail
              refine cB2.mono ?_
              clear cB2
              rintro e w9 ⟨rfl, hb9⟩
              have HB9 := Lib.hid (tr HB8.out hb9)
              clear hb9
              go_wp2_with fail
              go_meet
              exact ⟨rfl, HB9.out⟩
            · have hY1 : Y = X := by rw [hY0]; unfold turnW; rw [if_pos hBX]
              subst hY1
              clear hY0 hBX
              have cB1 := cB w7
              go_wp2_with fail
              refine cB1.mono ?_
              clear cB1
              rintro e w8 ⟨rfl, hb8⟩
              have HB8 := Lib.hid hb8
              have cB2 := cB w8
              clear hb8 cB
              go_wp2_with fail
              refine cB2.mono ?_
              clear cB2
              rintro e w9 ⟨rfl, hb9⟩
              have HB9 := Lib.hid (tr HB8.out hb9)
              clear hb9
              go_wp2_with fail
              go_meet
              exact ⟨rfl, HB9.out⟩
        case rest =>
        obtain ⟨rfl, hb8⟩ := hcut
        have HB8 := Lib.hid (tr HB7.out hb8)
        clear hb8 HB4 HB5 HB6 HB7
        go_wp2_with fail
        go_loopg [11, 12] i (fun g v11 v12 wx => ∃ (j : Nat) (xs : List Value), v12 = .int .i64 j ∧ j + g = i ∧ wx.ownsRow wc.heap.size 53 4 v11 ((l.take j).filter lessB).length xs ∧ NFlat wx (fun k => k < wc.heap.size) ((l.take j).filter lessB) xs ∧ Below wc.heap.size wc wx)
        case atStart => exact ⟨0, [], rfl, by omega, World.ownsRow_nil _ _ _ _, rfl, Below.refl _ _⟩
        case round =>
          obtain ⟨j, xs, rfl, hj, hown, hfl, hbel⟩ := hrel
          obtain ⟨ua, uc, rfl, -, -⟩ := row_flat (ok' := fun _ => True) hown hfl (fun _ _ _ => trivial) (fun _ _ _ => trivial)
          obtain ⟨L, hL⟩ : ∃ L, ((l.take j).filter lessB).length = L := ⟨_, rfl⟩
          have hLj : L ≤ j := by
            have h1 := List.length_filter_le lessB (l.take j)
            have h2 := List.length_take_le j l
            omega
          rw [hL] at hown ⊢
          have HLL := Lib.hid hL
          have HB9 := Lib.hid (tr HB8.out hbel)
          have hbs := hbel.size
          by_cases hlt : j < i
          · obtain ⟨x, hx⟩ : ∃ x, l[j]? = some x := ⟨l[j]'(by have := HKK.out; omega), List.getElem?_eq_getElem _⟩
            obtain ⟨B, o, rfl, hat⟩ := (HG1.out _ HB9.out).2.2.1.at_ hx
            obtain ⟨k1, n1, l1, p1⟩ := x
            obtain ⟨-, z0, z1, z3, y1, c1, z2, hk1⟩ := hat
            have hTK := less_take l j _ hx
            have hlt' : (j : Int) < (i : Int) := by omega
            have Qi1 : IntKind.i64.wrap ((j : Int) + 1) = (j : Int) + 1 := IntWalk.i64_in _ (by omega)
            have HOWN := Lib.hid hown
            have HFL := Lib.hid hfl
            have HBEL := Lib.hid hbel
            have HK1 := Lib.hid hk1
            clear hown hfl hbel hk1 hx hL
            by_cases hk : k1 = 7 ∨ k1 = 5 ∨ k1 = 6
            · have HTK : Hid ((l.take (j + 1)).filter lessB = (l.take j).filter lessB) := Lib.hid (by
                rw [hTK, if_neg]
                rcases hk with rfl | rfl | rfl <;> simp [lessB, Nd.kind])
              clear hTK
              have HREL : Hid (wr.ownsRow wc.heap.size 53 4 (.slice ua L uc) ((l.take (j + 1)).filter lessB).length xs ∧ NFlat wr (fun k => k < wc.heap.size) ((l.take (j + 1)).filter lessB) xs ∧ Below wc.heap.size wc wr) := Lib.hid (by
                rw [HTK.out, HLL.out]
                exact ⟨HOWN.out, HFL.out, HBEL.out⟩)
              rcases hk with rfl | rfl | rfl
              all_goals (
                go_wp2_with fail
                go_roundg (gk - 1)
                case measure => omega
                case rel => exact ⟨j + 1, xs, rfl, by omega, HREL.out⟩)
            · have HTK : Hid ((l.take (j + 1)).filter lessB = (l.take j).filter lessB ++ [.mk k1 n1 l1 p1]) := Lib.hid (by
                rw [hTK, if_pos]
                have h1 : k1 ≠ 7 ∧ k1 ≠ 5 ∧ k1 ≠ 6 := ⟨fun h => hk (.inl h), fun h => hk (.inr (.inl h)), fun h => hk (.inr (.inr h))⟩
                simp [lessB, Nd.kind, h1])
              have Q7 : (k1 != 7) = true := by rw [bne_iff_ne]; exact fun h => hk (.inl h)
              have Q5 : (k1 != 5) = true := by rw [bne_iff_ne]; exact fun h => hk (.inr (.inl h))
              have Q6 : (k1 != 6) = true := by rw [bne_iff_ne]; exact fun h => hk (.inr (.inr h))
              clear hTK hk
              go_wp2_with (at_builtin; refine wpList_append_fresh _ rfl (.tmp 124) (.tmp 129) 22 rfl wc.heap.size 53 i0 (.agg #[.int .i64 0, .string ⟨#[]⟩, .slice none 0 0, .int .i64 0]) 4 56 Tryz.underlying22 hi0 hz0 hz1 hz2 rfl (by decide) _ _ _ rfl (HOWN.out.alloc _) ⟨wr.heap.size, 0, none⟩ 1 1 [.int .i64 k1, .string ⟨n1.toArray⟩, .slice y1 l1.length c1, .int .i64 p1] rfl rfl (cell_four_new _ _ _ _ _ _) (fun x hx => by simp at hx; rcases hx with rfl | rfl | rfl | rfl <;> rfl) (by unfold maxLen; omega) (by omega) (by simp; omega) ?_; intro v' w6 hown' hgrow hfresh)
              have hlt5 := fun j hj => ((HOWN.out.alloc (.cells #[.int .i64 k1, .string ⟨n1.toArray⟩, .slice y1 l1.length c1, .int .i64 p1] 53)).lt j hj).1
              have HREL : Hid (w6.ownsRow wc.heap.size 53 4 v' ((l.take (j + 1)).filter lessB).length (xs ++ [.int .i64 k1, .string ⟨n1.toArray⟩, .slice y1 l1.length c1, .int .i64 p1]) ∧ NFlat w6 (fun k => k < wc.heap.size) ((l.take (j + 1)).filter lessB) (xs ++ [.int .i64 k1, .string ⟨n1.toArray⟩, .slice y1 l1.length c1, .int .i64 p1]) ∧ Below wc.heap.size wc w6) := Lib.hid (by
                have hba : Below wc.heap.size wc (wr.alloc (.cells #[.int .i64 k1, .string ⟨n1.toArray⟩, .slice y1 l1.length c1, .int .i64 p1] 53)) := HBEL.out.alloc HBEL.out.size _
                have hb6 : Below wc.heap.size wc w6 := below_grow hba (Nat.le_refl _) hgrow hlt5
                have hb8 := HB8.out.size
                rw [HTK.out, List.length_append, HLL.out]
                refine ⟨hown', NFlat.app (x := .mk k1 n1 l1 p1) (a := [.int .i64 k1, .string ⟨n1.toArray⟩, .slice y1 l1.length c1, .int .i64 p1]) ⟨y1, c1, rfl, ?_⟩ (NFlat.mono (fun _ h _ => h) (fun k hk _ => (hb6.block k hk).trans (HBEL.out.block k hk).symm) HFL.out), hb6⟩
                exact NdRow.mono (fun k h _ => by omega) (fun k h _ => (hb6.block k (by omega)).trans (HBEL.out.block k (by omega)).symm) _ _ HK1.out)
              clear hown' hgrow hfresh hlt5
              go_wp2_with fail
              go_roundg (gk - 1)
              case measure => omega
              case rel => exact ⟨j + 1, _, rfl, by omega, HREL.out⟩
          · have hlt' : ¬ (j : Int) < (i : Int) := by omega
            have hji : j = i := by omega
            rw [← hL, hji, List.take_of_length_le (Nat.le_of_eq HKK.out)] at hown
            rw [hji, List.take_of_length_le (Nat.le_of_eq HKK.out)] at hfl hL
            obtain ⟨hG9, hE9, -, hB9⟩ := HG1.out _ HB9.out
            have HB9w := Lib.hid hB9
            have hLW : wtL (l.filter lessB) < 2 ^ 38 := by
              have h1 := less_wt l
              have h2 := HW.out
              omega
            obtain ⟨ua', uc', hu, -, hrl⟩ := row_flat (ok' := fun k => k < wr.heap.size) hown hfl (fun _ _ h => h) (fun _ _ h => h)
            cases hu
            have c9 := scheck_any (l.filter lessB) hLW _ ua uc wr hG9 hrl (fun _ h => h)
            rw [hL] at c9
            have HG9 := Lib.hid (⟨hG9, hE9⟩ : _ ∧ _)
            clear hown hfl hbel hrl hG9 hE9 hB9 hlt hji
            by_cases hA0 : A = 0
            · have HR := Lib.hid (less_right HC.out (HA.out.trans hA0))
              subst hA0
              go_wp2_with fail
              refine c9.mono ?_
              clear c9
              rintro e w9 ⟨hb9, hend⟩
              have he : e = .returned .nilIface := by
                rcases hend with ⟨h, -⟩ | ⟨-, -, h⟩ | ⟨-, c', n', p', b, h, -⟩
                · exact absurd HR.out.1 h
                · exact h
                · rw [HR.out.2] at h
                  cases h
              subst he
              have CA := Lib.hid (tr HB9w.out hb9)
              have cw := swakes_any w9 (HG9.out.1.below hb9) (HG9.out.2.below hb9)
              clear hend hb9
              go_wp2_with fail
              refine cw.mono ?_
              clear cw
              rintro e w10 ⟨rfl, AA⟩
              have BA := Lib.hid (tr CA.out AA)
              clear AA
              go_wp2_with fail
              go_ret
              exact ⟨rfl, BA.out⟩
            · have Q1 : (A != 0) = true := by simp [hA0]
              have cw := swakes_any wr HG9.out.1 HG9.out.2
              clear hA0 c9
              go_wp2_with fail
              refine cw.mono ?_
              clear cw
              rintro e w10 ⟨rfl, AA⟩
              have BA := Lib.hid (tr HB9w.out AA)
              clear AA
              go_wp2_with fail
              go_ret
              exact ⟨rfl, BA.out⟩
end Go.Proofs.YtpbkeamjdolpgaaGreatDoor
