/- The walk of scope's statements, kind by kind. The walk of scope's for and if. The walk of scope's if. Scope's statements by their parts: definitions, calls. Scope's statements and blocks, of any size. Plain: how many events a walk finds at most. What scope does where something is wrong. The walk of scope.Check. The walks of scope.Free and scope.Calls. -/
import Derived.Test.YtpbkeamjdolpgaaGreatDoorS03
import Derived.Deep.RegionHeld2
import Derived.Test.YtpbkeamjdolpgaaGreatDoorS01
import Derived.Test.YtpbkeamjdolpgaaGreatDoorB04
import Derived.Test.YtpbkeamjdolpgaaGreatDoorB19
namespace Go.Proofs.YtpbkeamjdolpgaaGreatDoor
open Go.RowKit Go.Lib
open Go.Maps (Keyed)

set_option maxHeartbeats 4000000 in
set_option maxRecDepth 100000 in
theorem stmt2_step (Γ : SCtx) (n : List UInt8) (kids : List Nd) (p : Int) (hb : BodyOk Γ 2 (fun ρ m => evS (.mk 2 n kids p) ρ m) 2 n kids p) : StmtOk Γ (.mk 2 n kids p) := by
  intro w m ev ρ v u hv hu h hwt hl
  obtain ⟨y, c, rfl, hrow⟩ := hv
  have hA : Below w.heap.size w (w.alloc (.cells #[.int .i64 2, .string ⟨n.toArray⟩, .slice y kids.length c, .int .i64 p] 53)) := (Below.refl _ _).alloc (Nat.le_refl _) _
  have HB := Lib.hid (Box4.new w (.int .i64 2) (.string ⟨n.toArray⟩) (.slice y kids.length c) (.int .i64 p))
  have cb := hb _ m ev ρ (.agg #[.int .i64 2, .string ⟨n.toArray⟩, .slice y kids.length c, .int .i64 p]) u ⟨y, c, rfl, hrow.below hA⟩ (hu.below hA) (h.below hA) hwt hl
  have H0 := Lib.hid (SOk.start h hA)
  have HEE : Hid (envS ρ (.mk 2 n kids p) = some (2, n, argc kids) :: ρ) := Lib.hid (by simp [envS])
  clear hb hrow hu h hwt hl hA
  go_enter Tryz.func176, Tryz.ntmps176
  go_upto_region 1 with (fail)
  obtain ⟨a, ha⟩ : ∃ a, w.heap.size = a := ⟨_, rfl⟩
  rw [ha] at HB ⊢
  have HAA := Lib.hid ha
  clear ha
  generalize World.alloc w (.cells #[.int .i64 2, .string ⟨n.toArray⟩, .slice y kids.length c, .int .i64 p] 53) = W at H0 HB cb ⊢
  obtain ⟨x0, x1', x2, x3, xf⟩ := HB.out.facts
  go_wp2_with fail
  refine cb.mono ?_
  clear cb x0 x1' x2 x3 xf
  rintro e w2 (⟨v2, rfl, he, hok⟩ | hbad)
  · have HOK : Hid (SOk Γ w m ev (evS (.mk 2 n kids p) ρ m) w2) := Lib.hid (SOk.trans (e1 := []) H0.out (by rw [List.append_nil]; exact hok))
    have HE := Lib.hid he
    clear hok he
    go_wp2_with fail
    go_ret
    refine .inl ⟨_, rfl, ?_, HOK.out⟩
    rw [HEE.out]
    exact HE.out
  · have hb2 : SBad Γ w (evS (.mk 2 n kids p) ρ m) e w2 := SBad.right (e1 := []) H0.out hbad
    obtain ⟨ch, rfl⟩ := hbad.pan
    exact ⟨rfl, .inr hb2⟩
set_option maxHeartbeats 4000000 in
set_option maxRecDepth 100000 in
theorem stmt3_step (Γ : SCtx) (n : List UInt8) (kids : List Nd) (p : Int) (hb : BodyOk Γ 1 (fun ρ m => evS (.mk 3 n kids p) ρ m) 3 n kids p) : StmtOk Γ (.mk 3 n kids p) := by
  intro w m ev ρ v u hv hu h hwt hl
  obtain ⟨y, c, rfl, hrow⟩ := hv
  have hA : Below w.heap.size w (w.alloc (.cells #[.int .i64 3, .string ⟨n.toArray⟩, .slice y kids.length c, .int .i64 p] 53)) := (Below.refl _ _).alloc (Nat.le_refl _) _
  have HB := Lib.hid (Box4.new w (.int .i64 3) (.string ⟨n.toArray⟩) (.slice y kids.length c) (.int .i64 p))
  have cb := hb _ m ev ρ (.agg #[.int .i64 3, .string ⟨n.toArray⟩, .slice y kids.length c, .int .i64 p]) u ⟨y, c, rfl, hrow.below hA⟩ (hu.below hA) (h.below hA) hwt hl
  have H0 := Lib.hid (SOk.start h hA)
  have HEE : Hid (envS ρ (.mk 3 n kids p) = some (1, n, argc kids) :: ρ) := Lib.hid (by simp [envS])
  clear hb hrow hu h hwt hl hA
  go_enter Tryz.func176, Tryz.ntmps176
  go_upto_region 1 with (fail)
  obtain ⟨a, ha⟩ : ∃ a, w.heap.size = a := ⟨_, rfl⟩
  rw [ha] at HB ⊢
  have HAA := Lib.hid ha
  clear ha
  generalize World.alloc w (.cells #[.int .i64 3, .string ⟨n.toArray⟩, .slice y kids.length c, .int .i64 p] 53) = W at H0 HB cb ⊢
  obtain ⟨x0, x1', x2, x3, xf⟩ := HB.out.facts
  go_wp2_with fail
  refine cb.mono ?_
  clear cb x0 x1' x2 x3 xf
  rintro e w2 (⟨v2, rfl, he, hok⟩ | hbad)
  · have HOK : Hid (SOk Γ w m ev (evS (.mk 3 n kids p) ρ m) w2) := Lib.hid (SOk.trans (e1 := []) H0.out (by rw [List.append_nil]; exact hok))
    have HE := Lib.hid he
    clear hok he
    go_wp2_with fail
    go_ret
    refine .inl ⟨_, rfl, ?_, HOK.out⟩
    rw [HEE.out]
    exact HE.out
  · have hb2 : SBad Γ w (evS (.mk 3 n kids p) ρ m) e w2 := SBad.right (e1 := []) H0.out hbad
    obtain ⟨ch, rfl⟩ := hbad.pan
    exact ⟨rfl, .inr hb2⟩
set_option maxHeartbeats 4000000 in
set_option maxRecDepth 100000 in
theorem stmt7_step (Γ : SCtx) (n : List UInt8) (kids : List Nd) (p : Int) (hb : CallOk Γ 7 n kids p) : StmtOk Γ (.mk 7 n kids p) := by
  intro w m ev ρ v u hv hu h hwt hl
  obtain ⟨y, c, rfl, hrow⟩ := hv
  have hA : Below w.heap.size w (w.alloc (.cells #[.int .i64 7, .string ⟨n.toArray⟩, .slice y kids.length c, .int .i64 p] 53)) := (Below.refl _ _).alloc (Nat.le_refl _) _
  have HB := Lib.hid (Box4.new w (.int .i64 7) (.string ⟨n.toArray⟩) (.slice y kids.length c) (.int .i64 p))
  have hEV : evS (.mk 7 n kids p) ρ m = callE ρ m n kids p ++ (evEs ρ (bodyOf kids) ++ evT kids ρ m) := by
    rw [evS, if_neg (by decide), if_neg (by decide), if_neg (by decide), if_neg (by decide), if_neg (by decide), List.append_assoc]
  have hEE : envS ρ (.mk 7 n kids p) = ρ := by simp [envS]
  rw [hEV] at hl ⊢
  rw [hEE]
  have cb := hb _ m ev ρ (.agg #[.int .i64 7, .string ⟨n.toArray⟩, .slice y kids.length c, .int .i64 p]) u ⟨y, c, rfl, hrow.below hA⟩ (hu.below hA) (h.below hA) (by rw [wtN_mk] at hwt; omega) hl
  have H0 := Lib.hid (SOk.start h hA)
  have HU := Lib.hid (hu.below hA)
  clear hb hrow hu h hwt hl hA hEV hEE
  go_enter Tryz.func176, Tryz.ntmps176
  go_upto_region 1 with (fail)
  obtain ⟨a, ha⟩ : ∃ a, w.heap.size = a := ⟨_, rfl⟩
  rw [ha] at HB ⊢
  have HAA := Lib.hid ha
  clear ha
  generalize World.alloc w (.cells #[.int .i64 7, .string ⟨n.toArray⟩, .slice y kids.length c, .int .i64 p] 53) = W at H0 HB cb HU ⊢
  obtain ⟨x0, x1', x2, x3, xf⟩ := HB.out.facts
  go_wp2_with fail
  refine cb.mono ?_
  clear cb x0 x1' x2 x3 xf
  rintro e w2 (⟨rfl, hok⟩ | hbad)
  · have HOK : Hid (SOk Γ w m ev (callE ρ m n kids p ++ (evEs ρ (bodyOf kids) ++ evT kids ρ m)) w2) := Lib.hid (SOk.trans (e1 := []) H0.out (by rw [List.append_nil]; exact hok))
    have HE := Lib.hid (HU.out.owp hok.2.2)
    clear hok
    go_wp2_with fail
    go_ret
    exact .inl ⟨_, rfl, HE.out, HOK.out⟩
  · have hb2 : SBad Γ w (callE ρ m n kids p ++ (evEs ρ (bodyOf kids) ++ evT kids ρ m)) e w2 := SBad.right (e1 := []) H0.out hbad
    obtain ⟨ch, rfl⟩ := hbad.pan
    exact ⟨rfl, .inr hb2⟩
set_option maxHeartbeats 4000000 in
set_option maxRecDepth 100000 in
theorem stmt1_step (Γ : SCtx) (hw : WrongOk Γ) (n : List UInt8) (x : Nd) (p : Int) (hX : ExprOk Γ x) : StmtOk Γ (.mk 1 n [x] p) := by
  intro w m ev ρ v u hv hu h hwt hl
  obtain ⟨y, c, rfl, hrow⟩ := hv
  obtain ⟨B, o, rfl, hat, -⟩ := hrow
  have hEV : evS (.mk 1 n [x] p) ρ m = dupE ρ n p ++ evE ρ x := by
    rw [evS, if_pos rfl]
    show _ ++ (evE ρ x ++ []) = _
    rw [List.append_nil]
  have hEE : envS ρ (.mk 1 n [x] p) = some (0, n, 0) :: ρ := by simp [envS]
  rw [hEV] at hl ⊢
  rw [hEE]
  have hA : Below w.heap.size w (w.alloc (.cells #[.int .i64 1, .string ⟨n.toArray⟩, .slice (some ⟨B, o, none⟩) 1 c, .int .i64 p] 53)) := (Below.refl _ _).alloc (Nat.le_refl _) _
  obtain ⟨F, cap, rfl, eg, -⟩ := env_any _ ρ u w hu
  have HB := Lib.hid (Box4.new w (.int .i64 1) (.string ⟨n.toArray⟩) (.slice (some ⟨B, o, none⟩) 1 c) (.int .i64 p))
  have H0 := Lib.hid (SOk.start h hA)
  have HENV := Lib.hid hu
  have HAT := Lib.hid hat
  have HW := Lib.hid hw
  have HX := Lib.hid hX
  have HL := Lib.hid hl
  have HA := Lib.hid hA
  have HMAY := Lib.hid h.may
  obtain ⟨F', cap', hf, -, hc⟩ := env_any _ ρ _ _ (hu.below hA)
  cases hf
  have c0 := hc 0 n true
  unfold TkEnd at c0
  obtain ⟨tx, htx⟩ : ∃ x, tkA ρ 0 n true = x := ⟨_, rfl⟩
  obtain ⟨ty, hty⟩ : ∃ x, tkB ρ 0 n true = x := ⟨_, rfl⟩
  obtain ⟨tz, htz⟩ : ∃ x, (findE ρ 0 n true).isSome = x := ⟨_, rfl⟩
  rw [htx, hty, htz] at c0
  obtain ⟨tb, htb⟩ : ∃ x, truthB n = x := ⟨_, rfl⟩
  obtain ⟨DU, hDU⟩ : ∃ r, dupE ρ n p = r := ⟨_, rfl⟩
  have HDU : Hid (DU = if tz || tb then [.bad 280 n p] else []) := Lib.hid (by
    rw [← hDU, ← htz, ← htb]
    rfl)
  have HTB := Lib.hid htb
  rw [hDU] at HL ⊢
  obtain ⟨P0, hP0⟩ : ∃ P : List Ev, [] = P := ⟨_, rfl⟩
  rw [hP0] at H0
  have HP0 := Lib.hid hP0
  have HTOT : Hid (DU ++ evE ρ x = (P0 ++ DU) ++ evE ρ x) := Lib.hid (by rw [← hP0]; rfl)
  clear hA hat hu hw hX hl hwt h hc htx hty htz htb hDU hP0 hEV hEE
  go_enter Tryz.func176, Tryz.ntmps176
  go_upto_region 1 with (fail)
  obtain ⟨a, ha⟩ : ∃ a, w.heap.size = a := ⟨_, rfl⟩
  rw [ha] at HB ⊢
  have HAA := Lib.hid ha
  clear ha
  generalize World.alloc w (.cells #[.int .i64 1, .string ⟨n.toArray⟩, .slice (some ⟨B, o, none⟩) 1 c, .int .i64 p] 53) = W at HA H0 HB c0 ⊢
  have haw : ∀ w1, Owp (MayT Γ) W w1 → Box4 w1 a (.int .i64 1) (.string ⟨n.toArray⟩) (.slice (some ⟨B, o, none⟩) 1 c) (.int .i64 p) := fun w1 ho => (ho.block a HB.out.lt (fun hm => by have := HMAY.out a hm; have := HAA.out; omega)).trans HB.out
  have HAW := Lib.hid haw
  clear haw
  obtain ⟨x0, x1', x2, x3, xf⟩ := HB.out.facts
  go_wp2_with fail
  go_at_fn F
  refine c0.mono ?_
  clear c0 x0 x1' x2 x3 xf
  rintro e w1 ⟨rfl, hb1⟩
  go_upto_region 5 with (fail)
  have hb2 : Below W.heap.size W (w1.alloc (.cells #[.int .i64 tx, .bool ty] 171)) := tr hb1 ((Below.refl _ _).alloc (Nat.le_refl _) _)
  have HS3 := Lib.hid (⟨H0.out.1, H0.out.2.1.below hb2, H0.out.2.2.below hb2⟩ : SOk Γ w m ev P0 _)
  have HO3 : Hid (Owp (MayT Γ) W _) := Lib.hid (Owp.of_below hb2)
  clear hb1 hb2
  generalize World.alloc w1 (.cells #[.int .i64 tx, .bool ty] 171) = w3 at HS3 HO3 ⊢
  have HB3 := Lib.hid (HAW.out w3 HO3.out)
  obtain ⟨x0, x1', x2, x3, xf⟩ := HB3.out.facts
  have ct := truth_any n w3
  rw [HTB.out] at ct
  go_cut [31] from 26 to 31 (fun v wx => v = .bool (tz || tb) ∧ SOk Γ w m ev P0 wx ∧ Owp (MayT Γ) W wx)
  case first =>
    cases tz
    · go_wp2_with (first | (go_at_call 203; (with_reducible refine ct.mono ?_); rintro e w4 ⟨rfl, rfl⟩))
      go_meet
      case rel => exact ⟨rfl, HS3.out, HO3.out⟩
    · go_wp2_with fail
      go_meet
      case rel => exact ⟨rfl, HS3.out, HO3.out⟩
  case rest =>
    obtain ⟨rfl, hs4, ho4⟩ := hcut
    have HS4 := Lib.hid hs4
    have HO4 := Lib.hid ho4
    clear hs4 ho4 HS3 HO3 HB3 x0 x1' x2 x3 xf ct
    obtain ⟨T, hT⟩ : ∃ T, (tz || tb) = T := ⟨_, rfl⟩
    rw [hT] at HDU ⊢
    clear hT
    have HB4 := Lib.hid (HAW.out wc HO4.out)
    obtain ⟨w4, hw4⟩ : ∃ w4, wc = w4 := ⟨_, rfl⟩
    rw [hw4] at HS4 HO4 HB4 ⊢
    clear hw4
    go_upto_if 31 with (fail)
    go_cut [] from 32 to 37 (fun wx => SOk Γ w m ev (P0 ++ DU) wx ∧ Owp (MayT Γ) w4 wx)
    case first =>
      obtain ⟨x0, x1', x2, x3, xf⟩ := (HB4.out).facts
      cases T
      · have HXF : Hid (DU = []) := HDU.out
        go_wp2_with fail
        go_meet
        case rel =>
          rw [HXF.out, List.append_nil]
          exact ⟨HS4.out, Owp.refl _ _⟩
      · have HXF : Hid (DU = [.bad 280 n p]) := HDU.out
        obtain ⟨-, -, -, -, c4, -, -, -⟩ := HS4.out.2.1.cells
        have hw2 := HW.out.2 1 n (some ⟨B, o, none⟩) 1 c p 280 w4.drew
        have egw := HW.out.1
        go_upto_region 6 with (fail)
        go_still_tail 5, (by kernel_rfl)
        change wpList _ _ _ _ _ (World.drew w4)
        have HOa : Hid (Owp (MayT Γ) w4 w4.drew) := Lib.hid (Owp.of_below (Below.refl _ _).drew)
        have HSa : Hid (SOk Γ w m ev P0 w4.drew) := Lib.hid ⟨HS4.out.1, HS4.out.2.1.same fun _ _ => rfl, HS4.out.2.2.trans HOa.out⟩
        generalize World.drew w4 = wa at *
        go_wp2_with fail
        go_at_fn Γ.wf
        refine hw2.mono ?_
        clear hw2 x0 x1' x2 x3 xf c4
        rintro e wb (⟨ha, rfl, hb⟩ | ⟨ha, hb, b, hbl, rfl, hf⟩)
        · have HOb := Lib.hid (HOa.out.below hb)
          have HOK : Hid (SOk Γ w m ev (P0 ++ DU) wb) := by
            show SOk _ _ _ _ _ _
            rw [HXF.out]
            exact HSa.out.trans ⟨.inl ha, (HSa.out.2.1.below hb).badly _ _ _, Owp.of_below hb⟩
          clear ha hb
          go_wp2_with fail
          go_meet
          case rel => exact ⟨HOK.out, HOb.out⟩
        · refine ⟨rfl, .inr ?_⟩
          rw [HTOT.out, HXF.out]
          exact SBad.left (SBad.right HSa.out ⟨ha, 280, n, p, b, rfl, hbl, rfl, hf, Owp.of_below hb⟩) _
    case rest =>
      obtain ⟨hs5, ho5⟩ := hcut
      have HS5 : Hid (SOk Γ w m ev DU wc) := Lib.hid (by rw [← HP0.out] at hs5; exact hs5)
      have HO5 := Lib.hid (HO4.out.trans ho5)
      clear hs5 ho5 HS4 HB4 HTOT HO4
      have HB5 := Lib.hid (HAW.out wc HO5.out)
      obtain ⟨x0, x1', x2, x3, xf⟩ := HB5.out.facts
      obtain ⟨k1, n1, l1, p1⟩ := x
      obtain ⟨hok1, z0, z1, z3, y1, c1, z2, hk1⟩ := (HAT.out.mono (fun _ h _ => h) (fun b hb hl => HS5.out.2.2.block b hl hb) : NdAt wc (fun b => ¬ MayT Γ b) (.mk k1 n1 l1 p1) B o)
      have cx := HX.out wc m _ ρ (.agg #[.int .i64 k1, .string ⟨n1.toArray⟩, .slice y1 l1.length c1, .int .i64 p1]) _ ⟨y1, c1, rfl, hk1⟩ (HENV.out.owp HS5.out.2.2) HS5.out.2.1 (by
        have := HL.out
        simp only [List.length_append] at this ⊢
        omega)
      clear hok1 hk1
      go_wp2_with fail
      refine cx.mono ?_
      clear cx x0 x1' x2 x3 xf z0 z1 z2 z3
      rintro e w6 (⟨rfl, hok⟩ | hbad)
      · have HOK := Lib.hid (SOk.trans HS5.out hok)
        have HO6 := Lib.hid (HO5.out.trans hok.2.2)
        clear hok
        have HB6 := Lib.hid (HAW.out w6 HO6.out)
        obtain ⟨x0, x1', x2, x3, xf⟩ := HB6.out.facts
        have cw := with_any (MayT Γ) ρ _ 0 n 0 false (by decide) w6 (HENV.out.owp HOK.out.2.2) HOK.out.2.1.may
        go_wp2_with fail
        refine cw.mono ?_
        clear cw x0 x1' x2 x3 xf
        rintro e w7 ⟨u7, rfl, he7, hb7⟩
        have HE7 := Lib.hid he7
        have HS7 := Lib.hid (⟨HOK.out.1, HOK.out.2.1.below hb7, HOK.out.2.2.below hb7⟩ : SOk Γ w m ev _ w7)
        clear he7 hb7
        go_wp2_with fail
        go_ret
        exact .inl ⟨_, rfl, HE7.out, HS7.out⟩
      · have hb2 : SBad Γ w (DU ++ evE ρ (.mk k1 n1 l1 p1)) e w6 := SBad.right HS5.out hbad
        obtain ⟨ch, rfl⟩ := hbad.pan
        exact ⟨rfl, .inr hb2⟩
end Go.Proofs.YtpbkeamjdolpgaaGreatDoor
namespace Go.Proofs.YtpbkeamjdolpgaaGreatDoor
open Go.RowKit Go.Lib
open Go.Maps (Keyed)

theorem evBs_app : ∀ (a b : List Nd) (ρ : Env) (m : Nat), evBs (a ++ b) ρ m = evBs a ρ m ++ evBs b ρ m
  | [], _, _, _ => rfl
  | x :: r, b, ρ, m => by
    rw [List.cons_append, evBs, evBs, evBs_app r b, List.append_assoc]
set_option maxHeartbeats 4000000 in
set_option maxRecDepth 100000 in
theorem stmt5_step (Γ : SCtx) (hw : WrongOk Γ) (n : List UInt8) (x b : Nd) (p : Int) (hX : ExprOk Γ x) (hB : BlockOk Γ b.kids) : StmtOk Γ (.mk 5 n [x, b] p) := by
  intro w m ev ρ v u hv hu h hwt hl
  obtain ⟨y, c, rfl, hrow⟩ := hv
  obtain ⟨B, o, rfl, hat, hrow1⟩ := hrow
  obtain ⟨B', o', hBo, hat1, -⟩ := hrow1
  cases hBo
  obtain ⟨kb, nb, lb, pb⟩ := b
  have hEV : evS (.mk 5 n [x, .mk kb nb lb pb] p) ρ m = (if truthB n then [.bad 280 n p] else []) ++ (evE ρ x ++ evSs lb (none :: some (0, n, 0) :: ρ) m) := by
    rw [evS, if_neg (by decide), if_neg (by decide), if_neg (by decide), if_pos rfl]
    show (_ ++ (evE ρ x ++ [])) ++ (evSs lb (none :: some (0, n, 0) :: ρ) m ++ []) = _
    rw [List.append_nil, List.append_nil, List.append_assoc]
  have hEE : envS ρ (.mk 5 n [x, .mk kb nb lb pb] p) = ρ := by simp [envS]
  rw [hEV] at hl ⊢
  rw [hEE]
  have hA : Below w.heap.size w (w.alloc (.cells #[.int .i64 5, .string ⟨n.toArray⟩, .slice (some ⟨B, o, none⟩) 2 c, .int .i64 p] 53)) := (Below.refl _ _).alloc (Nat.le_refl _) _
  have HB := Lib.hid (Box4.new w (.int .i64 5) (.string ⟨n.toArray⟩) (.slice (some ⟨B, o, none⟩) 2 c) (.int .i64 p))
  have H0 := Lib.hid (SOk.start h hA)
  have HENV := Lib.hid hu
  have HAT := Lib.hid hat
  have HAT1 := Lib.hid hat1
  have HW := Lib.hid hw
  have HX := Lib.hid hX
  have HBK := Lib.hid hB
  have HA := Lib.hid hA
  have HMAY := Lib.hid h.may
  have HWL : Hid (m + wtL lb < 2 ^ 40) := Lib.hid (by
    rw [wtN_mk] at hwt
    have h2 : wtL [x, .mk kb nb lb pb] = wtN x + (wtN (.mk kb nb lb pb) + 0) := rfl
    rw [wtN_mk kb] at h2
    omega)
  obtain ⟨tb, htb⟩ : ∃ x, truthB n = x := ⟨_, rfl⟩
  rw [htb] at hl ⊢
  obtain ⟨EB, hEB⟩ : ∃ r, evSs lb (none :: some (0, n, 0) :: ρ) m = r := ⟨_, rfl⟩
  have HEB := Lib.hid hEB
  rw [hEB] at hl ⊢
  obtain ⟨DU, hDU⟩ : ∃ r, (if tb = true then [Ev.bad 280 n p] else []) = r := ⟨_, rfl⟩
  have HDU : Hid (DU = if tb then [.bad 280 n p] else []) := Lib.hid hDU.symm
  have HTB := Lib.hid htb
  rw [hDU] at hl ⊢
  have HL := Lib.hid hl
  obtain ⟨P0, hP0⟩ : ∃ P : List Ev, [] = P := ⟨_, rfl⟩
  rw [hP0] at H0
  have HP0 := Lib.hid hP0
  have HTOT : Hid (DU ++ (evE ρ x ++ EB) = (P0 ++ DU) ++ (evE ρ x ++ EB)) := Lib.hid (by rw [← hP0]; rfl)
  obtain ⟨F, cap, rfl, eg, -⟩ := env_any _ ρ u w hu
  clear hA hat hat1 hu hw hX hB hl hwt h htb hDU hP0 hEV hEE hEB
  go_enter Tryz.func176, Tryz.ntmps176
  go_upto_region 1 with (fail)
  obtain ⟨a, ha⟩ : ∃ a, w.heap.size = a := ⟨_, rfl⟩
  rw [ha] at HB ⊢
  have HAA := Lib.hid ha
  clear ha
  generalize World.alloc w (.cells #[.int .i64 5, .string ⟨n.toArray⟩, .slice (some ⟨B, o, none⟩) 2 c, .int .i64 p] 53) = W at HA H0 HB ⊢
  have haw : ∀ w1, Owp (MayT Γ) W w1 → Box4 w1 a (.int .i64 5) (.string ⟨n.toArray⟩) (.slice (some ⟨B, o, none⟩) 2 c) (.int .i64 p) := fun w1 ho => (ho.block a HB.out.lt (fun hm => by have := HMAY.out a hm; have := HAA.out; omega)).trans HB.out
  have HAW := Lib.hid haw
  clear haw
  obtain ⟨x0, x1', x2, x3, xf⟩ := HB.out.facts
  have ct := truth_any n W
  rw [HTB.out] at ct
  go_upto_if 66 with (first | (go_at_call 203; (with_reducible refine ct.mono ?_); rintro e w4 ⟨rfl, rfl⟩))
  clear x0 x1' x2 x3 xf ct
  go_cut [] from 67 to 72 (fun wx => SOk Γ w m ev (P0 ++ DU) wx ∧ Owp (MayT Γ) W wx)
  case first =>
    obtain ⟨x0, x1', x2, x3, xf⟩ := (HB.out).facts
    cases tb
    · have HXF : Hid (DU = []) := HDU.out
      go_wp2_with fail
      go_meet
      case rel =>
        rw [HXF.out, List.append_nil]
        exact ⟨H0.out, Owp.refl _ _⟩
    · have HXF : Hid (DU = [.bad 280 n p]) := HDU.out
      obtain ⟨-, -, -, -, c4, -, -, -⟩ := H0.out.2.1.cells
      have hw2 := HW.out.2 5 n (some ⟨B, o, none⟩) 2 c p 280 W.drew
      have egw := HW.out.1
      go_upto_region 15 with (fail)
      go_still_tail 5, (by kernel_rfl)
      change wpList _ _ _ _ _ (World.drew W)
      have HOa : Hid (Owp (MayT Γ) W W.drew) := Lib.hid (Owp.of_below (Below.refl _ _).drew)
      have HSa : Hid (SOk Γ w m ev P0 W.drew) := Lib.hid ⟨H0.out.1, H0.out.2.1.same fun _ _ => rfl, H0.out.2.2.trans HOa.out⟩
      generalize World.drew W = wa at *
      go_wp2_with fail
      go_at_fn Γ.wf
      refine hw2.mono ?_
      clear hw2 x0 x1' x2 x3 xf c4
      rintro e wb (⟨ha, rfl, hb⟩ | ⟨ha, hb, b, hbl, rfl, hf⟩)
      · have HOb := Lib.hid (HOa.out.below hb)
        have HOK : Hid (SOk Γ w m ev (P0 ++ DU) wb) := by
          show SOk _ _ _ _ _ _
          rw [HXF.out]
          exact HSa.out.trans ⟨.inl ha, (HSa.out.2.1.below hb).badly _ _ _, Owp.of_below hb⟩
        clear ha hb
        go_wp2_with fail
        go_meet
        case rel => exact ⟨HOK.out, HOb.out⟩
      · refine ⟨rfl, .inr ?_⟩
        rw [HTOT.out, HXF.out]
        exact SBad.left (SBad.right HSa.out ⟨ha, 280, n, p, b, rfl, hbl, rfl, hf, Owp.of_below hb⟩) _
  case rest =>
    obtain ⟨hs5, ho5⟩ := hcut
    have HS5 : Hid (SOk Γ w m ev DU wc) := Lib.hid (by rw [← HP0.out] at hs5; exact hs5)
    have HO5 := Lib.hid ho5
    clear hs5 ho5 H0 HB HTOT
    have HB5 := Lib.hid (HAW.out wc HO5.out)
    obtain ⟨x0, x1', x2, x3, xf⟩ := HB5.out.facts
    obtain ⟨k1, n1, l1, p1⟩ := x
    obtain ⟨hok1, z0, z1, z3, y1, c1, z2, hk1⟩ := (HAT.out.mono (fun _ h _ => h) (fun b hb hl => HS5.out.2.2.block b hl hb) : NdAt wc (fun b => ¬ MayT Γ b) (.mk k1 n1 l1 p1) B o)
    have cx := HX.out wc m _ ρ (.agg #[.int .i64 k1, .string ⟨n1.toArray⟩, .slice y1 l1.length c1, .int .i64 p1]) _ ⟨y1, c1, rfl, hk1⟩ (HENV.out.owp HS5.out.2.2) HS5.out.2.1 (by
      have := HL.out
      simp only [List.length_append] at this ⊢
      omega)
    clear hok1 hk1
    go_wp2_with fail
    refine cx.mono ?_
    clear cx x0 x1' x2 x3 xf z0 z1 z2 z3
    rintro e w6 (⟨rfl, hok⟩ | hbad)
    · have HOK := Lib.hid (SOk.trans HS5.out hok)
      have HO6 := Lib.hid (HO5.out.trans hok.2.2)
      clear hok
      have HB6 := Lib.hid (HAW.out w6 HO6.out)
      obtain ⟨x0, x1', x2, x3, xf⟩ := HB6.out.facts
      obtain ⟨hokb, -, -, -, yb, cb', zb2, hkb⟩ := (HAT1.out.mono (fun _ h _ => h) (fun b hb hl => HOK.out.2.2.block b hl hb) : NdAt w6 (fun b => ¬ MayT Γ b) (.mk kb nb lb pb) B (o + 4))
      have hd : Below w6.heap.size w6 w6.drew := (Below.refl _ _).drew
      have HS6 := Lib.hid (⟨HOK.out.1, HOK.out.2.1.below hd, HOK.out.2.2.below hd⟩ : SOk Γ w m ev _ w6.drew)
      have HKB := Lib.hid (hkb.below hd)
      have HOKB := Lib.hid hokb.ok
      have cw := with_any (MayT Γ) ρ _ 0 n 0 false (by decide) w6.drew (HENV.out.owp HS6.out.2.2) HS6.out.2.1.may
      have cb : ∀ w8 u8, EnvAt w8 (MayT Γ) (some (0, n, 0) :: ρ) u8 → Below w6.drew.heap.size w6.drew w8 → Calls Tryz.prog 134 #[.pointer (some ⟨Γ.wb, 0, none⟩), .slice yb lb.length cb', u8] w8 (SEnd Γ w8 m (ev ++ (DU ++ evE ρ (.mk k1 n1 l1 p1))) EB) := by
        intro w8 u8 he8 hb8
        have h1 := HBK.out w8 m _ (some (0, n, 0) :: ρ) yb cb' u8 (HKB.out.below hb8) he8 (HS6.out.2.1.below hb8) HWL.out (by
          have := HL.out
          show _ + (evSs lb (none :: some (0, n, 0) :: ρ) m).length < _
          rw [HEB.out]
          simp only [List.length_append] at this ⊢
          omega)
        rw [show (Nd.mk kb nb lb pb).kids = lb from rfl, HEB.out] at h1
        exact h1
      have d1 : w6.drew.cell? ⟨a, 1, none⟩ = some (.string ⟨n.toArray⟩) := x1'
      have d2 : w6.drew.cell? ⟨a, 2, none⟩ = some (.slice (some ⟨B, o, none⟩) 2 c) := x2
      have d3 : w6.drew.cell? ⟨B, o + 4 + 2, none⟩ = some (.slice yb lb.length cb') := zb2
      have HD : Hid (∀ w9, Owp (MayT Γ) w6.drew w9 → w9.cell? ⟨a, 1, none⟩ = some (.string ⟨n.toArray⟩) ∧ w9.cell? ⟨a, 2, none⟩ = some (.slice (some ⟨B, o, none⟩) 2 c) ∧ w9.cell? ⟨B, o + 4 + 2, none⟩ = some (.slice yb lb.length cb')) := Lib.hid fun w9 ho => by
        have hna : ¬ MayT Γ a := fun hm => by have := HMAY.out a hm; have := HAA.out; omega
        exact ⟨ho.cell (p := ⟨a, 1, none⟩) hna d1, ho.cell (p := ⟨a, 2, none⟩) hna d2, ho.cell (p := ⟨B, o + 4 + 2, none⟩) HOKB.out d3⟩
      have HS8 : Hid (∀ w8, Below w6.drew.heap.size w6.drew w8 → SOk Γ w m ev (DU ++ evE ρ (.mk k1 n1 l1 p1)) w8) := Lib.hid fun w8 hb => ⟨HS6.out.1, HS6.out.2.1.below hb, HS6.out.2.2.below hb⟩
      clear hokb hkb hd
      go_upto_region 17 with (fail)
      go_region_held2 (fun w' => w'.cell? ⟨a, 1, none⟩ = some (.string ⟨n.toArray⟩) ∧ w'.cell? ⟨a, 2, none⟩ = some (.slice (some ⟨B, o, none⟩) 2 c) ∧ w'.cell? ⟨B, o + 4 + 2, none⟩ = some (.slice yb lb.length cb')) (first | with_reducible exact ⟨x1', x2, zb2⟩ | with_reducible exact ⟨d1, d2, d3⟩ | with_reducible assumption) (first | (go_at_call 205; (refine cw.mono ?_); rintro e w8 ⟨u8, rfl, he8, hb8⟩; have hS8 := HD.out w8 (Owp.of_below hb8)) | (go_at_call 134; (refine (cb _ _ he8 hb8).mono ?_); rintro e w9 (⟨rfl, hok⟩ | hbad); rotate_left; (obtain ⟨ch, rfl⟩ := hbad.pan; refine ⟨rfl, .inr ?_⟩; rw [← List.append_assoc]; exact SBad.right (HS8.out _ hb8) hbad); have hS9 := HD.out w9 ((Owp.of_below hb8).trans hok.2.2)))
      have HS9 := Lib.hid (SOk.trans (HS8.out _ hb8) hok)
      have HE9 := Lib.hid (HENV.out.owp HS9.out.2.2)
      clear hS8 hS9 hok he8 hb8 d1 d2 d3 x0 x1' x2 x3 xf zb2
      go_wp2_with fail
      go_ret
      refine .inl ⟨_, rfl, HE9.out, ?_⟩
      rw [← List.append_assoc]
      exact HS9.out
    · have hb2 : SBad Γ w (DU ++ (evE ρ (.mk k1 n1 l1 p1) ++ EB)) e w6 := SBad.right HS5.out (SBad.left hbad _)
      obtain ⟨ch, rfl⟩ := hbad.pan
      exact ⟨rfl, .inr hb2⟩
end Go.Proofs.YtpbkeamjdolpgaaGreatDoor
namespace Go.Proofs.YtpbkeamjdolpgaaGreatDoor
open Go.RowKit Go.Lib
open Go.Maps (Keyed)

set_option maxHeartbeats 4000000 in
set_option maxRecDepth 100000 in
theorem stmt6_step (Γ : SCtx) (n : List UInt8) (x : Nd) (r : List Nd) (p : Int) (hX : ExprOk Γ x) (hB : ∀ b ∈ r, BlockOk Γ b.kids) (hr1 : 0 < r.length) : ∀ (w : World) (m : Nat) (ev : List Ev) (ρ : Env) (y : Option Addr) (c : Nat) (u : Value), NdRow w (fun b => ¬ MayT Γ b) (x :: r) y → (x :: r).length ≤ c → EnvAt w (MayT Γ) ρ u → WSt Γ w m ev → m + wtN (.mk 6 n (x :: r) p) < 2 ^ 40 → ev.length + (evS (.mk 6 n (x :: r) p) ρ m).length < 2 ^ 40 →
    Calls Tryz.prog 176 #[.pointer (some ⟨Γ.wb, 0, none⟩), .agg #[.int .i64 6, .string ⟨n.toArray⟩, .slice y (x :: r).length c, .int .i64 p], u] w (SEndE Γ w m ev (evS (.mk 6 n (x :: r) p) ρ m) (envS ρ (.mk 6 n (x :: r) p))) := by
  intro w m ev ρ y c u hrow hcap hu h hwt hl
  obtain ⟨B, o, rfl, hat, hrow1⟩ := hrow
  have hEV : evS (.mk 6 n (x :: r) p) ρ m = evE ρ x ++ evBs r ρ m := by
    rw [evS, if_neg (by decide), if_neg (by decide), if_neg (by decide), if_neg (by decide), if_pos rfl]
    show (evE ρ x ++ []) ++ evBs r ρ m = _
    rw [List.append_nil]
  have hEE : envS ρ (.mk 6 n (x :: r) p) = ρ := by simp [envS]
  rw [hEV] at hl ⊢
  rw [hEE]
  obtain ⟨R, hR⟩ : ∃ R, r.length = R := ⟨_, rfl⟩
  have hK : (x :: r).length = R + 1 := by rw [← hR]; rfl
  have HC : Hid (0 < R ∧ R + 1 ≤ c) := Lib.hid ⟨by omega, by omega⟩
  rw [hK]
  have hA : Below w.heap.size w (w.alloc (.cells #[.int .i64 6, .string ⟨n.toArray⟩, .slice (some ⟨B, o, none⟩) (R + 1) c, .int .i64 p] 53)) := (Below.refl _ _).alloc (Nat.le_refl _) _
  have HB := Lib.hid (Box4.new w (.int .i64 6) (.string ⟨n.toArray⟩) (.slice (some ⟨B, o, none⟩) (R + 1) c) (.int .i64 p))
  have H0 := Lib.hid (SOk.start h hA)
  have HENV := Lib.hid hu
  have HAT := Lib.hid hat
  have HROW1 := Lib.hid hrow1
  have HX := Lib.hid hX
  have HBK := Lib.hid hB
  have HA := Lib.hid hA
  have HMAY := Lib.hid h.may
  have HL := Lib.hid hl
  have HRR := Lib.hid hR
  have hwt2 : wtN (.mk 6 n (x :: r) p) = (wtN x + wtL r) + n.length + 1 := by
    rw [wtN_mk]
    rfl
  have HWT : Hid (m + wtL r < 2 ^ 40) := Lib.hid (by omega)
  have hRs : R < 2 ^ 40 := by
    have := len_wtL r
    omega
  obtain ⟨F, cap, rfl, eg, -⟩ := env_any _ ρ u w hu
  clear hA hat hrow1 hu hX hB hl hwt h hEV hEE hK hR hwt2 hr1 hcap
  go_enter Tryz.func176, Tryz.ntmps176
  go_upto_region 1 with (fail)
  obtain ⟨a, ha⟩ : ∃ a, w.heap.size = a := ⟨_, rfl⟩
  rw [ha] at HB ⊢
  have HAA := Lib.hid ha
  clear ha
  generalize World.alloc w (.cells #[.int .i64 6, .string ⟨n.toArray⟩, .slice (some ⟨B, o, none⟩) (R + 1) c, .int .i64 p] 53) = W at HA H0 HB ⊢
  have haw : ∀ w1, Owp (MayT Γ) W w1 → Box4 w1 a (.int .i64 6) (.string ⟨n.toArray⟩) (.slice (some ⟨B, o, none⟩) (R + 1) c) (.int .i64 p) := fun w1 ho => (ho.block a HB.out.lt (fun hm => by have := HMAY.out a hm; have := HAA.out; omega)).trans HB.out
  have HAW := Lib.hid haw
  clear haw
  obtain ⟨x0, x1', x2, x3, xf⟩ := HB.out.facts
  have hc1 : ¬ c = 1 := by have := HC.out; omega
  obtain ⟨k1, n1, l1, p1⟩ := x
  obtain ⟨hok1, z0, z1, z3, y1, c1, z2, hk1⟩ := (HAT.out.mono (fun _ h _ => h) (fun b hb hl => H0.out.2.2.block b hl hb) : NdAt W (fun b => ¬ MayT Γ b) (.mk k1 n1 l1 p1) B o)
  have cx := HX.out W m _ ρ (.agg #[.int .i64 k1, .string ⟨n1.toArray⟩, .slice y1 l1.length c1, .int .i64 p1]) _ ⟨y1, c1, rfl, hk1⟩ (HENV.out.owp H0.out.2.2) H0.out.2.1 (by
    have := HL.out
    simp only [List.length_append, List.length_nil] at this ⊢
    omega)
  clear hok1 hk1
  go_wp2_with fail
  refine cx.mono ?_
  clear cx x0 x1' x2 x3 xf z0 z1 z2 z3
  rintro e w6 (⟨rfl, hok⟩ | hbad)
  · have HOK : Hid (SOk Γ w m ev (evE ρ (.mk k1 n1 l1 p1)) w6) := Lib.hid (SOk.trans (e1 := []) H0.out hok)
    have HO6 : Hid (Owp (MayT Γ) W w6) := Lib.hid hok.2.2
    clear hok
    have HB6 := Lib.hid (HAW.out w6 HO6.out)
    obtain ⟨x0, x1', x2, x3, xf⟩ := HB6.out.facts
    go_upto_region 20 with (fail)
    go_wp2_with fail
    go_loopg [105] R (fun g v wx => ∃ i : Nat, v = .int .i64 i ∧ i + g = R ∧ SOk Γ w m ev (evE ρ (.mk k1 n1 l1 p1) ++ evBs (r.take i) ρ m) wx)
    case atStart => exact ⟨0, rfl, by omega, by (rw [List.take_zero]; show SOk _ _ _ _ (_ ++ []) _; rw [List.append_nil]; exact HOK.out)⟩
    case round =>
      clear HOK x0 x1' x2 x3 xf HB6
      obtain ⟨i, rfl, hi, hok⟩ := hrel
      have HOK := Lib.hid hok
      clear hok
      by_cases hlt : i < R
      · obtain ⟨b, hb⟩ : ∃ b, r[i]? = some b := ⟨r[i]'(by have := HRR.out; omega), List.getElem?_eq_getElem _⟩
        have hmem := List.mem_of_getElem? hb
        obtain ⟨B1, o1, hbo, hat⟩ := (NdRow.mono (fun _ h _ => h) (fun b hb hl => HOK.out.2.2.block b hl hb) _ _ HROW1.out : NdRow wr (fun b => ¬ MayT Γ b) r (some ⟨B, o + 4, none⟩)).at_ hb
        cases hbo
        obtain ⟨k2, n2, l2, p2⟩ := b
        have htk : r.take (i + 1) = r.take i ++ [.mk k2 n2 l2 p2] := by rw [List.take_add_one, hb]; rfl
        have hevs : evBs (r.take (i + 1)) ρ m = evBs (r.take i) ρ m ++ evSs l2 (none :: ρ) m := by
          rw [htk, evBs_app]
          show _ ++ (evSs l2 (none :: ρ) m ++ []) = _
          rw [List.append_nil]
        obtain ⟨E2, hcat⟩ : ∃ E2, evE ρ (.mk k1 n1 l1 p1) ++ evBs r ρ m = (evE ρ (.mk k1 n1 l1 p1) ++ evBs (r.take i) ρ m) ++ (evSs l2 (none :: ρ) m ++ E2) := by
          refine ⟨evBs (r.drop (i + 1)) ρ m, ?_⟩
          have h1 : r = r.take (i + 1) ++ r.drop (i + 1) := (List.take_append_drop _ _).symm
          conv => lhs; rw [h1]
          rw [evBs_app, hevs]
          simp only [List.append_assoc]
        have hwx := wtL_mem hmem
        rw [wtN_mk] at hwx
        obtain ⟨-, z0, z1, z3, y2, c2, z2, hk2⟩ := hat
        have HY := Lib.hid (HBK.out _ hmem)
        have HEV := Lib.hid hevs
        have HCAT := Lib.hid hcat
        have HK2 := Lib.hid hk2
        have HWX := Lib.hid hwx
        have hlt' : (i : Int) < (R : Int) := by omega
        have Qi1 : IntKind.i64.wrap ((i : Int) + 1) = (i : Int) + 1 := IntWalk.i64_in _ (by omega)
        clear hb hmem hevs hcat hk2 htk hwx
        go_upto_region 23 with (fail)
        have hal : Below wr.heap.size wr (wr.alloc (.cells #[.int .i64 k2, .string ⟨n2.toArray⟩, .slice y2 l2.length c2, .int .i64 p2] 53)) := (Below.refl _ _).alloc (Nat.le_refl _) _
        have HS1 := Lib.hid (⟨HOK.out.1, HOK.out.2.1.below hal, HOK.out.2.2.below hal⟩ : SOk Γ w m ev _ _)
        have HK3 := Lib.hid (HK2.out.below hal)
        have HBX := Lib.hid (Box4.new wr (.int .i64 k2) (.string ⟨n2.toArray⟩) (.slice y2 l2.length c2) (.int .i64 p2))
        clear z0 z1 z2 z3 HOK HK2 hal
        obtain ⟨bx, hbx⟩ : ∃ bx, wr.heap.size = bx := ⟨_, rfl⟩
        rw [hbx] at HBX ⊢
        clear hbx
        generalize World.alloc wr (.cells #[.int .i64 k2, .string ⟨n2.toArray⟩, .slice y2 l2.length c2, .int .i64 p2] 53) = w7 at HS1 HK3 HBX ⊢
        obtain ⟨x0, x1', x2, x3, xf⟩ := HBX.out.facts
        have cb := HY.out w7 m _ ρ y2 c2 _ HK3.out (HENV.out.owp HS1.out.2.2) HS1.out.2.1 (by
          have h1 := HWT.out
          have h2 := HWX.out
          show m + wtL l2 < _
          omega) (by
          have := HL.out
          rw [HCAT.out] at this
          show _ + (evSs l2 (none :: ρ) m).length < _
          simp only [List.length_append] at this ⊢
          omega)
        rw [show (Nd.mk k2 n2 l2 p2).kids = l2 from rfl] at cb
        go_wp2_with fail
        refine cb.mono ?_
        clear cb x0 x1' x2 x3 xf
        rintro e w8 (⟨rfl, hok⟩ | hbad)
        · have HOK : Hid (SOk Γ w m ev (evE ρ (.mk k1 n1 l1 p1) ++ evBs (r.take (i + 1)) ρ m) w8) := by
            show SOk _ _ _ _ _ _
            rw [HEV.out, ← List.append_assoc]
            exact SOk.trans HS1.out hok
          clear hok
          go_wp2_with fail
          go_roundg (gk - 1)
          case measure => omega
          case rel => exact ⟨i + 1, rfl, by omega, HOK.out⟩
        · have hb2 : SBad Γ w (evE ρ (.mk k1 n1 l1 p1) ++ evBs r ρ m) e w8 := by
            rw [HCAT.out]
            exact SBad.right HS1.out (SBad.left hbad _)
          obtain ⟨ch, rfl⟩ := hbad.pan
          exact ⟨rfl, .inr hb2⟩
      · have hlt' : ¬ (i : Int) < (R : Int) := by omega
        have HE : Hid (SOk Γ w m ev (evE ρ (.mk k1 n1 l1 p1) ++ evBs r ρ m) wr) := by
          show SOk _ _ _ _ _ _
          have := HOK.out
          rw [List.take_of_length_le (by have := HRR.out; omega)] at this
          exact this
        have HE9 := Lib.hid (HENV.out.owp HE.out.2.2)
        clear HOK
        go_wp2_with fail
        go_ret
        exact .inl ⟨_, rfl, HE9.out, HE.out⟩
  · have hb2 : SBad Γ w (evE ρ (.mk k1 n1 l1 p1) ++ evBs r ρ m) e w6 := SBad.right (e1 := []) H0.out (SBad.left hbad _)
    obtain ⟨ch, rfl⟩ := hbad.pan
    exact ⟨rfl, .inr hb2⟩
end Go.Proofs.YtpbkeamjdolpgaaGreatDoor
namespace Go.Proofs.YtpbkeamjdolpgaaGreatDoor
open Go.RowKit Go.Lib

theorem stmt3_any (Γ : SCtx) (hw : WrongOk Γ) (n : List UInt8) (k0 : Int) (n0 : List UInt8) (l0 : List Nd) (p0 : Int) (x1 : Nd) (p : Int) (hX : ExprOk Γ x1) : StmtOk Γ (.mk 3 n [.mk k0 n0 l0 p0, x1] p) := by
  have hb := body1_step Γ hw 3 n k0 n0 l0 p0 x1 p hX
  have e : (fun (ρ : Env) (m : Nat) => defE ρ 1 n p ++ (parE (none :: some (1, n, l0.length) :: ρ) l0 ++ evEs (parV (none :: some (1, n, l0.length) :: ρ) l0) [x1])) = fun ρ m => evS (.mk 3 n [.mk k0 n0 l0 p0, x1] p) ρ m := by
    funext ρ m
    rw [evS, if_neg (by decide), if_neg (by decide), if_pos rfl, List.append_assoc]
    rfl
  rw [e] at hb
  exact stmt3_step Γ n _ p hb
theorem stmt2_any (Γ : SCtx) (hw : WrongOk Γ) (n : List UInt8) (k0 : Int) (n0 : List UInt8) (l0 : List Nd) (p0 : Int) (x1 : Nd) (p : Int) (hX : BlockOk Γ x1.kids) : StmtOk Γ (.mk 2 n [.mk k0 n0 l0 p0, x1] p) := by
  have hb := body2_step Γ hw 2 n k0 n0 l0 p0 x1 p hX
  have e : (fun (ρ : Env) (m : Nat) => defE ρ 2 n p ++ (parE (none :: some (2, n, l0.length) :: ρ) l0 ++ evBs [x1] (parV (none :: some (2, n, l0.length) :: ρ) l0) (m + 1))) = fun ρ m => evS (.mk 2 n [.mk k0 n0 l0 p0, x1] p) ρ m := by
    funext ρ m
    rw [evS, if_neg (by decide), if_pos rfl, List.append_assoc]
    rfl
  rw [e] at hb
  exact stmt2_step Γ n _ p hb
theorem stmt7_any (Γ : SCtx) (hw : WrongOk Γ) (n : List UInt8) (k0 : Int) (n0 : List UInt8) (l0 : List Nd) (p0 : Int) (r : List Nd) (p : Int) (hr : r.length ≤ 1) (hn : n.length < 2 ^ 40) (ihE : ∀ x ∈ l0, ExprOk Γ x) (ihB : ∀ x ∈ r, BlockOk Γ x.kids) : StmtOk Γ (.mk 7 n (.mk k0 n0 l0 p0 :: r) p) :=
  stmt7_step Γ n _ p (call_step Γ hw 7 n k0 n0 l0 p0 r p hr hn ihE ihB)
end Go.Proofs.YtpbkeamjdolpgaaGreatDoor
namespace Go.Proofs.YtpbkeamjdolpgaaGreatDoor
open Go.RowKit Go.Lib

/-- A part of a kind (below 0: an expression). -/
def okW (w : Int) (x : Nd) : Bool := if w < 0 then exR x else decide (x.kind = w) && partR x
theorem shR1 {a : Int} : ∀ {kids : List Nd}, shR [a] kids = true → ∃ x, kids = [x] ∧ okW a x = true
  | [], h => by simp [shR] at h
  | [x], h => by
    refine ⟨x, rfl, ?_⟩
    rw [shR, Bool.and_eq_true] at h
    exact h.1
  | _ :: _ :: _, h => by simp [shR] at h
theorem shR2 {a b : Int} : ∀ {kids : List Nd}, shR [a, b] kids = true → ∃ x y, kids = [x, y] ∧ okW a x = true ∧ okW b y = true
  | [], h => by simp [shR] at h
  | x :: r, h => by
    rw [shR, Bool.and_eq_true] at h
    obtain ⟨y, rfl, hy⟩ := shR1 h.2
    exact ⟨x, y, rfl, h.1, hy⟩
theorem shR3 {a b c : Int} : ∀ {kids : List Nd}, shR [a, b, c] kids = true → ∃ x y z, kids = [x, y, z] ∧ okW a x = true ∧ okW b y = true ∧ okW c z = true
  | [], h => by simp [shR] at h
  | x :: r, h => by
    rw [shR, Bool.and_eq_true] at h
    obtain ⟨y, z, rfl, hy, hz⟩ := shR2 h.2
    exact ⟨x, y, z, rfl, h.1, hy, hz⟩
theorem okW_ex {x : Nd} (h : okW (-1) x = true) : exR x = true := h
theorem okW_blk {x : Nd} (h : okW 0 x = true) : stsR x.kids = true := by
  obtain ⟨k, n, l, p⟩ := x
  rw [okW, if_neg (by decide), Bool.and_eq_true, partR, Bool.and_eq_true] at h
  obtain ⟨h1, -, h2⟩ := h
  obtain rfl : k = 0 := of_decide_eq_true h1
  rwa [if_pos rfl] at h2
theorem okW_arg {x : Nd} (h : okW 8 x = true) : exsR x.kids = true := by
  obtain ⟨k, n, l, p⟩ := x
  rw [okW, if_neg (by decide), Bool.and_eq_true, partR, Bool.and_eq_true] at h
  obtain ⟨h1, -, h2⟩ := h
  obtain rfl : k = 8 := of_decide_eq_true h1
  rwa [if_neg (by decide), if_neg (by decide)] at h2
theorem stsR_each : ∀ {l : List Nd}, stsR l = true → ∀ x ∈ l, stR x = true
  | y :: r, h, x, hx => by
    have h' : (stR y && stsR r) = true := h
    rw [Bool.and_eq_true] at h'
    rcases List.mem_cons.1 hx with rfl | hx
    · exact h'.1
    · exact stsR_each h'.2 x hx
theorem stmt6_any (Γ : SCtx) (n : List UInt8) (x : Nd) (r : List Nd) (p : Int) (hX : ExprOk Γ x) (hB : ∀ b ∈ r, BlockOk Γ b.kids) (hr : 0 < r.length) : StmtOk Γ (.mk 6 n (x :: r) p) := by
  intro w m ev ρ v u hv hu h hwt hl
  obtain ⟨y, ⟨c, hc⟩, rfl, hrow⟩ := hv
  exact stmt6_step Γ n x r p hX hB hr w m ev ρ y c u hrow hc hu h hwt hl
/-- The walk of a right statement. -/
theorem sstmt_any (Γ : SCtx) (hw : WrongOk Γ) : ∀ (N : Nat) (x : Nd), wtN x < N → wtN x < 2 ^ 40 → stR x = true → StmtOk Γ x
  | N + 1, .mk k n kids p, hN, hs, hx => by
    rw [wtN_mk] at hN hs
    have hE : ∀ y ∈ kids, exR y = true → ExprOk Γ y := fun y hy he => sexpr_any Γ hw (wtN y + 1) y (Nat.lt_succ_self _) (by have := wtL_mem hy; omega) (.inl he)
    have hA : ∀ y ∈ kids, okW 8 y = true → ∀ z ∈ y.kids, ExprOk Γ z := fun y hy hy8 z hz => by
      have h1 := wtL_mem hy
      obtain ⟨k', n', l', p'⟩ := y
      rw [wtN_mk] at h1
      have h2 := wtL_mem (show z ∈ l' from hz)
      exact sexpr_any Γ hw (wtN z + 1) z (Nat.lt_succ_self _) (by omega) (.inl (exsR_each (okW_arg hy8) z hz))
    have hB : ∀ y ∈ kids, okW 0 y = true → BlockOk Γ y.kids := fun y hy hb => block_step Γ y.kids fun z hz => by
      have h1 := wtL_mem hy
      obtain ⟨k', n', l', p'⟩ := y
      rw [wtN_mk] at h1
      have h2 := wtL_mem (show z ∈ l' from hz)
      exact sstmt_any Γ hw N z (by omega) (by omega) (stsR_each (okW_blk hb) z hz)
    rw [stR] at hx
    by_cases k6 : k = 6
    · subst k6
      rw [if_pos rfl, Bool.and_eq_true] at hx
      have h2 := hx.2
      split at h2
      · obtain ⟨x, y, rfl, hx1, hy⟩ := shR2 h2
        exact stmt6_any Γ n x [y] p (hE x (by simp) (okW_ex hx1)) (fun b hb => by
          obtain rfl := List.mem_singleton.1 hb
          exact hB b (by simp) hy) (by simp)
      · obtain ⟨x, y, z, rfl, hx1, hy, hz⟩ := shR3 h2
        refine stmt6_any Γ n x [y, z] p (hE x (by simp) (okW_ex hx1)) (fun b hb => ?_) (by simp)
        rcases List.mem_cons.1 hb with rfl | hb
        · exact hB b (by simp) hy
        · obtain rfl := List.mem_singleton.1 hb
          exact hB b (by simp) hz
    rw [if_neg k6, Bool.and_eq_true] at hx
    have hx := hx.2
    by_cases k1 : k = 1
    · subst k1
      rw [if_pos rfl] at hx
      obtain ⟨x, rfl, hx1⟩ := shR1 hx
      exact stmt1_step Γ hw n x p (hE x (by simp) (okW_ex hx1))
    rw [if_neg k1] at hx
    by_cases k2 : k = 2
    · subst k2
      rw [if_pos rfl] at hx
      obtain ⟨⟨k0, n0, l0, p0⟩, y, rfl, hx1, hy⟩ := shR2 hx
      exact stmt2_any Γ hw n k0 n0 l0 p0 y p (hB y (by simp) hy)
    rw [if_neg k2] at hx
    by_cases k3 : k = 3
    · subst k3
      rw [if_pos rfl] at hx
      obtain ⟨⟨k0, n0, l0, p0⟩, y, rfl, hx1, hy⟩ := shR2 hx
      exact stmt3_any Γ hw n k0 n0 l0 p0 y p (hE y (by simp) (okW_ex hy))
    rw [if_neg k3] at hx
    by_cases k5 : k = 5
    · subst k5
      rw [if_pos rfl] at hx
      obtain ⟨x, y, rfl, hx1, hy⟩ := shR2 hx
      exact stmt5_step Γ hw n x y p (hE x (by simp) (okW_ex hx1)) (hB y (by simp) hy)
    rw [if_neg k5] at hx
    by_cases k7 : k = 7
    · subst k7
      rw [if_pos rfl] at hx
      split at hx
      · obtain ⟨⟨k0, n0, l0, p0⟩, rfl, hx1⟩ := shR1 hx
        exact stmt7_any Γ hw n k0 n0 l0 p0 [] p (by simp) (by omega) (hA _ (by simp) hx1) (fun b hb => by cases hb)
      · obtain ⟨⟨k0, n0, l0, p0⟩, y, rfl, hx1, hy⟩ := shR2 hx
        exact stmt7_any Γ hw n k0 n0 l0 p0 [y] p (by simp) (by omega) (hA _ (by simp) hx1) (fun b hb => by
          obtain rfl := List.mem_singleton.1 hb
          exact hB b (by simp) hy)
    rw [if_neg k7] at hx
    cases hx
/-- .. of right statements, in a block. -/
theorem sblock_any (Γ : SCtx) (hw : WrongOk Γ) (l : List Nd) (hs : wtL l < 2 ^ 40) (hx : stsR l = true) : BlockOk Γ l :=
  block_step Γ l fun z hz => sstmt_any Γ hw (wtN z + 1) z (Nat.lt_succ_self _) (by have := wtL_mem hz; omega) (stsR_each hx z hz)
end Go.Proofs.YtpbkeamjdolpgaaGreatDoor
namespace Go.Proofs.YtpbkeamjdolpgaaGreatDoor

theorem exprE_len (ρ : Env) (k : Int) (n : List UInt8) (kids : List Nd) (p : Int) : (exprE ρ k n kids p).length ≤ 2 := by
  unfold exprE
  split
  · split <;> simp
  · split
    · rw [List.length_cons]
      split
      · simp
      · split <;> simp
    · simp
theorem dupE_len (ρ : Env) (n : List UInt8) (p : Int) : (dupE ρ n p).length ≤ 1 := by
  unfold dupE
  split <;> simp
theorem defE_len (ρ : Env) (k : Nat) (n : List UInt8) (p : Int) : (defE ρ k n p).length ≤ 1 := by
  unfold defE
  generalize ((if k = 1 then (fnB n).isSome else (mdB n).isSome) || (findE ρ k n true).isSome) = b
  cases b <;> simp
theorem callE_len (ρ : Env) (m : Nat) (n : List UInt8) (kids : List Nd) (p : Int) : (callE ρ m n kids p).length ≤ 2 := by
  unfold callE
  rw [List.length_cons]
  split
  · simp
  · split <;> simp
theorem parE_len : ∀ (l : List Nd) (ρ : Env), (parE ρ l).length ≤ l.length
  | [], _ => Nat.le_refl _
  | .mk _ n _ p :: r, ρ => by
    rw [parE, List.length_append, List.length_cons]
    have := dupE_len ρ n p
    have := parE_len r (some (0, n, 0) :: ρ)
    omega
mutual
theorem evE_len (ρ : Env) : ∀ x : Nd, (evE ρ x).length ≤ 2 * wtN x
  | .mk k n kids p => by
    rw [evE, List.length_append, wtN_mk]
    have := exprE_len ρ k n kids p
    have := evEs_len ρ kids
    omega
theorem evEs_len (ρ : Env) : ∀ l : List Nd, (evEs ρ l).length ≤ 2 * wtL l
  | [] => by simp [evEs]
  | x :: r => by
    rw [evEs, List.length_append, wtL]
    have := evE_len ρ x
    have := evEs_len ρ r
    omega
end
theorem body_wt : ∀ (kids : List Nd), wtL (bodyOf kids) + wtL kids.tail ≤ wtL kids
  | [] => by simp [bodyOf, wtL]
  | .mk k n l p :: r => by
    show wtL l + wtL r ≤ wtN (.mk k n l p) + wtL r
    rw [wtN_mk]
    omega
theorem take_wt : ∀ (kids : List Nd), wtL (kids.take 1) + wtL kids.tail ≤ wtL kids
  | [] => by simp [wtL]
  | x :: r => by
    show wtN x + wtL [] + wtL r ≤ wtN x + wtL r
    have : wtL [] = 0 := rfl
    omega
mutual
theorem evS_len : ∀ (x : Nd) (ρ : Env) (m : Nat), (evS x ρ m).length ≤ 2 * wtN x
  | .mk k n kids p, ρ, m => by
    rw [evS, wtN_mk]
    have hb := body_wt kids
    have ht := take_wt kids
    have hl := len_wtL (bodyOf kids)
    have h1 := dupE_len ρ n p
    have h2 := callE_len ρ m n kids p
    have h3 := fun k => defE_len ρ k n p
    have h4 := fun ρ => parE_len (bodyOf kids) ρ
    have h5 := fun ρ m => evT_len kids ρ m
    have h6 := fun ρ l => evEs_len ρ l
    split
    · rw [List.length_append]
      have := h6 ρ kids
      omega
    split
    · rw [List.length_append, List.length_append]
      have := h3 2
      have := h4 (none :: some (2, n, argc kids) :: ρ)
      have := h5 (parV (none :: some (2, n, argc kids) :: ρ) (bodyOf kids)) (m + 1)
      omega
    split
    · rw [List.length_append, List.length_append]
      have := h3 1
      have := h4 (none :: some (1, n, argc kids) :: ρ)
      have := h6 (parV (none :: some (1, n, argc kids) :: ρ) (bodyOf kids)) kids.tail
      omega
    split
    · rw [List.length_append, List.length_append]
      have := h5 (some (0, n, 0) :: ρ) m
      have := h6 ρ (kids.take 1)
      have h7 : (if truthB n then [Ev.bad 280 n p] else []).length ≤ 1 := by split <;> simp
      omega
    split
    · rw [List.length_append]
      have := h5 ρ m
      have := h6 ρ (kids.take 1)
      omega
    · rw [List.length_append, List.length_append]
      have := h5 ρ m
      have := h6 ρ (bodyOf kids)
      omega
theorem evT_len : ∀ (l : List Nd) (ρ : Env) (m : Nat), (evT l ρ m).length ≤ 2 * wtL l.tail
  | [], _, _ => by simp [evT]
  | _ :: r, ρ, m => by
    rw [evT]
    exact evBs_len r ρ m
theorem evBs_len : ∀ (l : List Nd) (ρ : Env) (m : Nat), (evBs l ρ m).length ≤ 2 * wtL l
  | [], _, _ => by simp [evBs]
  | x :: r, ρ, m => by
    rw [evBs, List.length_append, wtL]
    have := evB_len x ρ m
    have := evBs_len r ρ m
    omega
theorem evB_len : ∀ (x : Nd) (ρ : Env) (m : Nat), (evB x ρ m).length ≤ 2 * wtN x
  | .mk _ n l _, ρ, m => by
    rw [evB, wtN_mk]
    have := evSs_len l (none :: ρ) m
    omega
theorem evSs_len : ∀ (l : List Nd) (ρ : Env) (m : Nat), (evSs l ρ m).length ≤ 2 * wtL l
  | [], _, _ => by simp [evSs]
  | x :: r, ρ, m => by
    rw [evSs, List.length_append, wtL]
    have := evS_len x ρ m
    have := evSs_len r (envS ρ x) m
    omega
end
end Go.Proofs.YtpbkeamjdolpgaaGreatDoor
namespace Go.Proofs.YtpbkeamjdolpgaaGreatDoor
open Go.RowKit Go.Lib

set_option maxHeartbeats 4000000 in
set_option maxRecDepth 100000 in
theorem wrong_stop (Γ : SCtx) (h1 : Γ.wf = 75) (h2 : Γ.all = false) : WrongOk Γ := by
  unfold WrongOk
  rw [h1, h2]
  refine ⟨fun _ _ => rfl, fun k n y len c p code w => ?_⟩
  have hB := Box4.new w (.int .i64 k) (.string ⟨n.toArray⟩) (.slice y len c) (.int .i64 p)
  obtain ⟨x0, x1, x2, x3, xf⟩ := hB.facts
  have hA : Below w.heap.size w (w.alloc (.cells #[.int .i64 k, .string ⟨n.toArray⟩, .slice y len c, .int .i64 p] 53)) := (Below.refl _ _).alloc (Nat.le_refl _) _
  have HA := Lib.hid hA
  clear hA hB
  go_enter Tryz.func75, Tryz.ntmps75
  go_wp2_with fail
  have hz := World.size_alloc w (.cells #[.int .i64 k, .string ⟨n.toArray⟩, .slice y len c, .int .i64 p] 53)
  refine ⟨rfl, .inr ⟨trivial, HA.out.alloc (by rw [hz]; omega) _, w.heap.size + 1, by omega, rfl, ?_⟩⟩
  have := heap_alloc_new (w.alloc (.cells #[.int .i64 k, .string ⟨n.toArray⟩, .slice y len c, .int .i64 p] 53)) (.cells #[.int .i64 code, .int .i64 p, .string ⟨n.toArray⟩] 61)
  rwa [hz] at this
set_option maxHeartbeats 4000000 in
set_option maxRecDepth 100000 in
theorem wrong_free (Γ : SCtx) (h1 : Γ.wf = 77) (h2 : Γ.all = true) : WrongOk Γ := by
  unfold WrongOk
  rw [h1, h2]
  refine ⟨fun _ _ => rfl, fun k n y len c p code w => ?_⟩
  have hA : Below w.heap.size w (w.alloc (.cells #[.int .i64 k, .string ⟨n.toArray⟩, .slice y len c, .int .i64 p] 53)) := (Below.refl _ _).alloc (Nat.le_refl _) _
  go_enter Tryz.func77, Tryz.ntmps77
  go_wp2_with fail
  go_end0
  exact .inl ⟨trivial, rfl, hA⟩
set_option maxHeartbeats 4000000 in
set_option maxRecDepth 100000 in
theorem wrong_calls (Γ : SCtx) (h1 : Γ.wf = 78) (h2 : Γ.all = true) : WrongOk Γ := by
  unfold WrongOk
  rw [h1, h2]
  refine ⟨fun _ _ => rfl, fun k n y len c p code w => ?_⟩
  have hA : Below w.heap.size w (w.alloc (.cells #[.int .i64 k, .string ⟨n.toArray⟩, .slice y len c, .int .i64 p] 53)) := (Below.refl _ _).alloc (Nat.le_refl _) _
  go_enter Tryz.func78, Tryz.ntmps78
  go_wp2_with fail
  go_end0
  exact .inl ⟨trivial, rfl, hA⟩
/-- A text's walk, all of it: what is handed back. -/
def GoneEnd (all : Bool) (l : List Nd) (w : World) (e : Ending) (w' : World) : Prop :=
  (∃ wb eb cb, e = .returned (.pointer (some ⟨wb, 0, none⟩)) ∧ w'.cell? ⟨wb, 5, none⟩ = some (.map (some eb)) ∧ w'.cell? ⟨wb, 6, none⟩ = some (.map (some cb)) ∧ CntMap w' eb (missE (evX l)) ∧ CntMap w' cb (calledE (evX l)) ∧ (all = true ∨ wrongE (evX l) = none) ∧ Below w.heap.size w w') ∨
  (all = false ∧ ∃ c n p b, wrongE (evX l) = some (c, n, p) ∧ w.heap.size ≤ b ∧ e = .panicked [{ v := .iface 23 (.pointer (some ⟨b, 0, none⟩)), recovered := false }] ∧ w'.heap[b]? = some (.cells #[.int .i64 c, .int .i64 p, .string ⟨n.toArray⟩] 61 (0, 0)) ∧ Below w.heap.size w w')
set_option maxHeartbeats 4000000 in
set_option maxRecDepth 100000 in
theorem gone_any (wf : Nat) (all : Bool) (hw : ∀ Γ : SCtx, Γ.wf = wf → Γ.all = all → WrongOk Γ) (l : List Nd) (hs : wtL l < 2 ^ 38) (hx : stsR l = true) (ok : Nat → Prop) (y : Option Addr) (c : Nat) (w : World) (hrow : NdRow w ok l y) (hok : ∀ b, ok b → b < w.heap.size) :
    Calls Tryz.prog 74 #[.slice y l.length c, .func (.func wf) #[] #[]] w (GoneEnd all l w) := by
  have hmm := @run_makeMap Tryz.prog
  have cf := functions_any
  have cm := modules_any
  have HROW := Lib.hid hrow
  have HW := Lib.hid hw
  clear hrow hw
  go_enter Tryz.func74, Tryz.ntmps74
  go_wp2_with (first | (go_at_call 132; refine (cf _).mono ?_; rintro e w1 ⟨fb, rfl, hf1, hf2, hf3⟩) | (go_at_call 133; refine (cm _).mono ?_; rintro e w2 ⟨mb, rfl, hm1, hm2, hm3⟩))
  obtain ⟨s2, hs2⟩ : ∃ s, w2.heap.size = s := ⟨_, rfl⟩
  have hz1 := World.size_alloc w2 (.map #[] 0)
  have hz2 := World.size_alloc (w2.alloc (.map #[] 0)) (.map #[] 0)
  have hz3 := World.size_alloc ((w2.alloc (.map #[] 0)).alloc (.map #[] 0)) (.cells #[.map none, .map (some fb), .map (some mb), .int .i64 0, .func (.func wf) #[] #[], .map (some s2), .map (some (s2 + 1))] 121)
  rw [hs2] at hz1 ⊢
  rw [hz1] at hz2
  rw [hz2] at hz3
  obtain ⟨W, hW⟩ : ∃ W, ((w2.alloc (.map #[] 0)).alloc (.map #[] 0)).alloc (.cells #[.map none, .map (some fb), .map (some mb), .int .i64 0, .func (.func wf) #[] #[], .map (some s2), .map (some (s2 + 1))] 121) = W := ⟨_, rfl⟩
  have hblk : W.heap[s2 + 1 + 1]? = some (.cells #[.map none, .map (some fb), .map (some mb), .int .i64 0, .func (.func wf) #[] #[], .map (some s2), .map (some (s2 + 1))] 121 (0, 0)) := by
    rw [← hW]
    have := heap_alloc_new ((w2.alloc (.map #[] 0)).alloc (.map #[] 0)) (.cells #[.map none, .map (some fb), .map (some mb), .int .i64 0, .func (.func wf) #[] #[], .map (some s2), .map (some (s2 + 1))] 121)
    rwa [hz2] at this
  have hb2 : Below s2 w2 W := by
    rw [← hW]
    exact (((Below.refl _ _).alloc (by omega) _).alloc (by rw [hz1]; omega) _).alloc (by rw [hz2]; omega) _
  have hbe : W.heap[s2]? = some (.map #[] 0) := by
    rw [← hW]
    refine (Below.heap_alloc _ _ _ (by rw [hz2]; omega)).trans ((Below.heap_alloc _ _ _ (by rw [hz1]; omega)).trans ?_)
    have := heap_alloc_new w2 (.map #[] 0)
    rwa [hs2] at this
  have hbc : W.heap[s2 + 1]? = some (.map #[] 0) := by
    rw [← hW]
    refine (Below.heap_alloc _ _ _ (by rw [hz2]; omega)).trans ?_
    have := heap_alloc_new (w2.alloc (.map #[] 0)) (.map #[] 0)
    rwa [hz1] at this
  have hcnt : ∀ b, W.heap[b]? = some (.map #[] 0) → CntMap W b [] := fun b hb => by
    obtain ⟨es, clock, h1, h2, h3, h4⟩ := World.ownsMap_made (H := Unit) w2 Tryz.prog 9 (plainElem Tryz.prog 3)
    rw [(MapKept.heap_alloc w2 _).1] at h1
    cases h1
    exact ⟨_, ⟨_, _, hb, h2, h3, h4⟩, CntD.nil⟩
  have hbw : Below w.heap.size w W := (hf3.trans (hm3.mono hf3.size)).trans (hb2.mono (by have := hf3.size; have := hm3.size; omega))
  have h12 := hm3.size
  have h01 := hf3.size
  have hfl := hf2.lt
  have hml := hm2.lt
  have hws : WSt ⟨s2 + 1 + 1, fb, mb, s2, s2 + 1, wf, all⟩ W 0 [] := by
    refine ⟨hblk, (hf2.keep (hm3.block _ hfl)).keep (hb2.block _ (by omega)), hm2.keep (hb2.block _ (by omega)), hcnt _ hbe, hcnt _ hbc, ?_, ?_, ?_, ?_, ?_⟩
    · show s2 + 1 + 1 ≠ s2
      omega
    · show s2 + 1 + 1 ≠ s2 + 1
      omega
    · show s2 ≠ s2 + 1
      omega
    · rintro (h | h | h) <;> (dsimp only at h; omega)
    · rintro (h | h | h) <;> (dsimp only at h; omega)
  have hnm : ∀ b, MayT ⟨s2 + 1 + 1, fb, mb, s2, s2 + 1, wf, all⟩ b → w.heap.size ≤ b := by
    rintro b (h | h | h) <;> (dsimp only at h; omega)
  have hrow' : NdRow W (fun b => ¬ MayT ⟨s2 + 1 + 1, fb, mb, s2, s2 + 1, wf, all⟩ b) l y := NdRow.mono (fun k hk _ hm => by have := hnm k hm; have := hok k hk; omega) (fun k _ hk => hbw.block k hk) _ _ HROW.out
  have hl1 := evSs_len l [none] 0
  have cb := sblock_any ⟨s2 + 1 + 1, fb, mb, s2, s2 + 1, wf, all⟩ (HW.out _ rfl rfl) l (by omega) hx W 0 [] [] y c _ hrow' rfl hws (by omega) (by simp only [List.length_nil]; omega)
  rw [hW]
  refine cb.mono ?_
  have HBW := Lib.hid hbw
  have HNM := Lib.hid hnm
  clear cb hws hrow' hl1 hbw hnm hcnt hbe hbc hblk hb2 hW hz1 hz2 hz3 hf1 hf2 hf3 hm1 hm2 hm3 cf cm hmm
  rintro e w4 (⟨rfl, hall, hst, how⟩ | ⟨h0, cc, nn, pp, bb, h1, h2, rfl, h4, h5⟩)
  · have hbel : Below w.heap.size w w4 := HBW.out.trans ⟨how.os, how.tape, how.output, by have := HBW.out.size; have := how.size; omega, fun k hk => how.block k (by have := HBW.out.size; omega) (fun hm => by have := HNM.out k hm; omega)⟩
    have HS := Lib.hid hst
    have HBL := Lib.hid hbel
    have HALL := Lib.hid hall
    clear hst how hbel hall
    go_wp2_with fail
    go_ret
    obtain ⟨-, -, -, -, -, c5, c6, -⟩ := HS.out.cells
    refine .inl ⟨_, _, _, rfl, c5, c6, ?_, ?_, HALL.out, HBL.out⟩
    · exact HS.out.fre
    · exact HS.out.cal
  · exact ⟨rfl, .inr ⟨h0, cc, nn, pp, bb, h1, Nat.le_trans HBW.out.size h2, rfl, h4, HBW.out.trans ⟨h5.os, h5.tape, h5.output, by have := HBW.out.size; have := h5.size; omega, fun k hk => h5.block k (by have := HBW.out.size; omega) (fun hm => by have := HNM.out k hm; omega)⟩⟩⟩
end Go.Proofs.YtpbkeamjdolpgaaGreatDoor
namespace Go.Proofs.YtpbkeamjdolpgaaGreatDoor
open Go.RowKit Go.Lib

theorem Tryz.noFaultE (w : World) : (Instr.typeAssert .nilIface 20 23 true).run Tryz.prog w = .ok (.tuple #[.pointer none, .bool false]) w := by kernel_rfl
set_option maxHeartbeats 400000 in
set_option maxRecDepth 100000 in
theorem sdoor_dies (pe : Nat) (v1 : Value) (b : Nat) (w : World) (hc1 : w.cell? ⟨pe, 0, none⟩ = some v1) (hz1 : w.frozen? ⟨pe, 0, none⟩ = false) :
    CallsD Tryz.prog 73 #[.pointer (some ⟨pe, 0, none⟩)] (.panicking ({ v := .iface 23 (.pointer (some ⟨b, 0, none⟩)), recovered := false } :: [])) w fun e u' w' =>
      e = .returned (.tuple #[]) ∧ u' = .panicking ({ v := .iface 23 (.pointer (some ⟨b, 0, none⟩)), recovered := true } :: []) ∧ w' = w.setCell ⟨pe, 0, none⟩ (.iface 23 (.pointer (some ⟨b, 0, none⟩))) := by
  have hTA := Tryz.isFaultE
  refine callsD_of_wpS Tryz.func73 rfl fun c₀ cs hu => ?_
  apply wpS_seq
  apply wpS_region
  simp [wpOpsS, go_sem, recoverD, hu, Tryz.ntmps73, Exit.thenS, hTA]
  refine wpS_of_wp ?_
  clear hu
  refine Code.wp_mono (Q := DoorQ (w.setCell ⟨pe, 0, none⟩ (.iface 23 (.pointer (some ⟨b, 0, none⟩))))) ?_ ?_
  · rintro e a' w' ⟨rfl, hd, rfl⟩
    exact ⟨hd, _, rfl, .tuple #[], by simp [results, Tryz.results73], rfl, rfl, rfl⟩
  · clear cs c₀
    have e : (#[Value.pointer (some ⟨pe, 0, none⟩)] ++ (((((((Array.replicate 10 undef).setIfInBounds 3 (Value.iface 23 (Value.pointer (some ⟨b, 0, none⟩)))).setIfInBounds 4 (Value.tuple #[Value.pointer (some ⟨b, 0, none⟩), Value.bool true])).setIfInBounds 2 (Value.tuple #[Value.pointer (some ⟨b, 0, none⟩), Value.bool true])).setIfInBounds 5 (Value.pointer (some ⟨b, 0, none⟩))).setIfInBounds 6 (Value.bool true)).setIfInBounds 0 (Value.pointer (some ⟨b, 0, none⟩))).setIfInBounds 1 (Value.bool true) : Array Value) =
      #[Value.pointer (some ⟨pe, 0, none⟩), Value.pointer (some ⟨b, 0, none⟩), Value.bool true, Value.tuple #[Value.pointer (some ⟨b, 0, none⟩), Value.bool true], Value.iface 23 (Value.pointer (some ⟨b, 0, none⟩)), Value.tuple #[Value.pointer (some ⟨b, 0, none⟩), Value.bool true], Value.pointer (some ⟨b, 0, none⟩), Value.bool true, undef, undef, undef] := by kernel_rfl
    rw [e]
    clear e
    go_wp2_with fail
    exact ⟨rfl, rfl, rfl⟩
theorem sdoor_idle (pe : Nat) (w : World) :
    CallsD Tryz.prog 73 #[.pointer (some ⟨pe, 0, none⟩)] .returning w fun e u' w' => e = .returned (.tuple #[]) ∧ u' = .returning ∧ w' = w := by
  have hTA := Tryz.noFaultE
  refine callsD_of_wpS Tryz.func73 rfl fun c₀ cs hu => ?_
  apply wpS_seq
  apply wpS_region
  simp [wpOpsS, go_sem, recoverD, hu, Tryz.ntmps73, Exit.thenS, hTA]
  refine wpS_of_wp ?_
  refine Code.wp_mono (Q := DoorQ w) ?_ ?_
  · rintro e a' w' ⟨rfl, hd, rfl⟩
    refine ⟨hd, .returning, ?_, .tuple #[], by simp [results, Tryz.results73], rfl, rfl, rfl⟩
    cases c₀
    simp_all
  · clear hu cs c₀
    have e : (#[Value.pointer (some ⟨pe, 0, none⟩)] ++ (((((((Array.replicate 10 undef).setIfInBounds 3 Value.nilIface).setIfInBounds 4 (Value.tuple #[Value.pointer none, Value.bool false])).setIfInBounds 2 (Value.tuple #[Value.pointer none, Value.bool false])).setIfInBounds 5 (Value.pointer none)).setIfInBounds 6 (Value.bool false)).setIfInBounds 0 (Value.pointer none)).setIfInBounds 1 (Value.bool false) : Array Value) =
      #[Value.pointer (some ⟨pe, 0, none⟩), Value.pointer none, Value.bool false, Value.tuple #[Value.pointer none, Value.bool false], Value.nilIface, Value.tuple #[Value.pointer none, Value.bool false], Value.pointer none, Value.bool false, undef, undef, undef] := by kernel_rfl
    rw [e]
    clear e
    go_wp2_with fail
    exact ⟨rfl, rfl, rfl⟩
theorem res_err {fn : Func} {p : Tmp} (hr : fn.results = #[.cell p 36]) {tmps : Array Value} {w : World} {a : Nat} {v0 : Value} (hp : tmps.getD p undef = .pointer (some ⟨a, 0, none⟩)) (c0 : w.cell? ⟨a, 0, none⟩ = some v0) : (results fn tmps).run Tryz.prog w = .ok v0 w := by
  have hp' : tmps[p]?.getD undef = .pointer (some ⟨a, 0, none⟩) := by simpa using hp
  simp [results, hr, hp', go_sem, c0]
/-- What Check hands back. -/
def ScEnd (l : List Nd) (w : World) (e : Ending) (w' : World) : Prop := Below w.heap.size w w' ∧
  ((checkR l ≠ 0 ∧ e = .returned (.iface 30 (.int .i64 (checkR l)))) ∨ (checkR l = 0 ∧ wrongE (evX l) = none ∧ e = .returned .nilIface) ∨
  (checkR l = 0 ∧ ∃ c n p b, wrongE (evX l) = some (c, n, p) ∧ w.heap.size ≤ b ∧ e = .returned (.iface 23 (.pointer (some ⟨b, 0, none⟩))) ∧ w'.heap[b]? = some (.cells #[.int .i64 c, .int .i64 p, .string ⟨n.toArray⟩] 61 (0, 0))))
theorem checkR_ok {l : List Nd} (h : checkR l = 0) : stsR l = true := by
  unfold checkR at h
  split at h
  · cases h
  · split at h
    · assumption
    · cases h
set_option maxHeartbeats 4000000 in
set_option maxRecDepth 100000 in
theorem scheck_any (l : List Nd) (hs : wtL l < 2 ^ 38) (ok : Nat → Prop) (y : Option Addr) (c : Nat) (w : World) (hG : Gl w) (hrow : NdRow w ok l y) (hok : ∀ b, ok b → b < w.heap.size) :
    Calls Tryz.prog 37 #[.slice y l.length c] w (ScEnd l w) := by
  have hmf : ∀ (fn : Fn) (first cap : Array Value) (w : World), (Instr.makeFunc fn first cap).run Tryz.prog w = .ok (.func fn first cap) w := fun _ _ _ _ => rfl
  have hA : Below w.heap.size w (w.alloc (.cells #[.nilIface] 36)) := (Below.refl _ _).alloc (Nat.le_refl _) _
  have hz := World.size_alloc w (.cells #[.nilIface] 36)
  have hE : (w.alloc (.cells #[.nilIface] 36)).heap[w.heap.size]? = some (.cells #[.nilIface] 36 (0, 0)) := heap_alloc_new w _
  have c0 := check_any ok l (by omega) y c _ (hG.below hA) (hrow.below hA)
  have HE : Hid (∀ w1, Below (w.alloc (.cells #[.nilIface] 36)).heap.size (w.alloc (.cells #[.nilIface] 36)) w1 → w1.heap[w.heap.size]? = some (.cells #[.nilIface] 36 (0, 0)) ∧ Below w.heap.size w w1 ∧ w.heap.size < w1.heap.size) := fun w1 hb => ⟨(hb.block _ (by rw [hz]; omega)).trans hE, hA.trans (hb.mono (by rw [hz]; omega)), by have := hb.size; omega⟩
  have HROW := Lib.hid hrow
  have HOK := Lib.hid hok
  clear hE hA hz hG hrow hok
  go_enter_defers Tryz.func37, Tryz.ntmps37
  go_wp2_with fail
  refine c0.mono ?_
  clear c0
  rintro e w1 ⟨rfl, hb1⟩
  obtain ⟨he1, hb1', hl1⟩ := HE.out w1 hb1
  have e1 := cell_of_one he1
  have e2 := free_of_one he1
  have HB1 := Lib.hid hb1'
  have HE1 := Lib.hid he1
  clear HE hb1 hb1' he1
  obtain ⟨R, hR⟩ : ∃ R, checkR l = R := ⟨_, rfl⟩
  rw [hR]
  have HR := Lib.hid hR
  clear hR
  by_cases hR0 : R = 0
  · have Q : (R != 0) = false := by simp [hR0]
    have HR0 : Hid (checkR l = 0) := Lib.hid (HR.out.trans hR0)
    have cg := gone_any 75 false (fun Γ => wrong_stop Γ) l hs (checkR_ok HR0.out) ok y c w1 (HROW.out.below HB1.out) (fun b hb => Nat.lt_trans (HOK.out b hb) hl1)
    clear hR0 HR
    go_wp2_with fail
    refine cg.mono ?_
    clear cg e1 e2
    rintro e w2 (⟨wb, eb, cb, rfl, h1, h2, h3, h4, h5, h6⟩ | ⟨-, cc, nn, pp, b, h1, h2, rfl, h3, h4⟩)
    · have he2 := (h6.block _ hl1).trans HE1.out
      have e1 := cell_of_one he2
      have e2 := free_of_one he2
      have HW : Hid (wrongE (evX l) = none) := Lib.hid (h5.resolve_left (by simp))
      have HB2 : Hid (Below w.heap.size w w2) := Lib.hid (HB1.out.trans (h6.mono (Nat.le_of_lt hl1)))
      have HE2 := Lib.hid he2
      clear h1 h2 h3 h4 h5 h6 he2
      go_wp2_with fail
      show Leaves _ _ _ _ _ _ _
      refine leaves_cons (f := 73) (args := #[.pointer (some ⟨w.heap.size, 0, none⟩)]) (by simp) (by simp [go_sem]) ?_
      refine (sdoor_idle w.heap.size _).mono ?_
      rintro e u' w'' ⟨rfl, rfl, rfl⟩
      show Leaves _ _ _ _ [] .returning _
      exact ⟨_, res_err rfl rfl (cell_of_one (t := 36) (one_setCell HE2.out)), HB2.out.setCell (p := ⟨w.heap.size, 0, none⟩) (Nat.le_refl _) _, .inr (.inl ⟨HR0.out, HW.out, rfl⟩)⟩
    · have he2 := (h4.block _ hl1).trans HE1.out
      have e1 := cell_of_one he2
      have e2 := free_of_one he2
      have HB2 : Hid (Below w.heap.size w w2) := Lib.hid (HB1.out.trans (h4.mono (Nat.le_of_lt hl1)))
      show Leaves _ _ _ _ _ _ _
      refine leaves_cons (f := 73) (args := #[.pointer (some ⟨w.heap.size, 0, none⟩)]) (by simp) (by simp [go_sem]) ?_
      refine (sdoor_dies w.heap.size _ b _ e1 e2).mono ?_
      rintro e u' w'' ⟨rfl, rfl, rfl⟩
      show Leaves _ _ _ _ [] .returning _
      refine ⟨_, res_err rfl rfl (cell_of_one (t := 36) (one_setCell he2)), HB2.out.setCell (p := ⟨w.heap.size, 0, none⟩) (Nat.le_refl _) _, .inr (.inr ⟨HR0.out, cc, nn, pp, b, h1, by omega, rfl, ?_⟩)⟩
      exact (Below.heap_setCell _ _ _ _ (show b ≠ w.heap.size by omega)).trans h3
  · have Q : (R != 0) = true := by simp [hR0]
    have HR0 : Hid (R ≠ 0) := Lib.hid hR0
    clear hR0
    go_wp2_with fail
    refine ⟨.iface 30 (.int .i64 R), res_err rfl rfl (cell_of_one (t := 36) (one_setCell HE1.out)), HB1.out.setCell (p := ⟨w.heap.size, 0, none⟩) (Nat.le_refl _) _, .inl ⟨?_, ?_⟩⟩
    · rw [HR.out]; exact HR0.out
    · rw [HR.out]
end Go.Proofs.YtpbkeamjdolpgaaGreatDoor
namespace Go.Proofs.YtpbkeamjdolpgaaGreatDoor
open Go.RowKit Go.Lib

/-- Names, in order, in a row of the call's own. -/
def NamesEnd (l : List (List UInt8)) (w : World) (e : Ending) (w' : World) : Prop := ∃ v, e = .returned v ∧ w'.ownsRow w.heap.size 9 1 v l.length (l.map encStr) ∧ Below w.heap.size w w'
/-- The names missing; those called. -/
def sfreeR (l : List Nd) : List (List UInt8) := if checkR l = 0 then risL (missE (evX l)) else []
def scallR (l : List Nd) : List (List UInt8) := if checkR l = 0 then risL (calledE (evX l)) else []
theorem ownsRow_low {w : World} {B B' : Nat} {t : TypeId} {s n : Nat} {v : Value} {xs : List Value} (h : w.ownsRow B t s v n xs) (hB : B' ≤ B) : w.ownsRow B' t s v n xs := by
  refine ⟨h.1, ?_⟩
  rcases h.2 with h1 | ⟨g, cap, cur, h1, h2, h3⟩
  · exact .inl h1
  · exact .inr ⟨g, cap, cur, h1, Nat.le_trans hB h2, h3⟩
set_option maxHeartbeats 4000000 in
set_option maxRecDepth 100000 in
theorem sfree_any (l : List Nd) (hs : wtL l < 2 ^ 38) (ok : Nat → Prop) (y : Option Addr) (c : Nat) (w : World) (hG : Gl w) (hrow : NdRow w ok l y) (hok : ∀ b, ok b → b < w.heap.size) :
    Calls Tryz.prog 40 #[.slice y l.length c] w (NamesEnd (sfreeR l) w) := by
  have c0 := check_any ok l (by omega) y c w hG hrow
  have HROW := Lib.hid hrow
  have HOK := Lib.hid hok
  clear hG hrow hok
  obtain ⟨R, hR⟩ : ∃ R, checkR l = R := ⟨_, rfl⟩
  rw [hR] at c0
  have HR := Lib.hid hR
  clear hR
  go_enter Tryz.func40, Tryz.ntmps40
  go_wp2_with fail
  refine c0.mono ?_
  clear c0
  rintro e w1 ⟨rfl, hb1⟩
  by_cases hR0 : R = 0
  · have Q : (R != 0) = false := by simp [hR0]
    have HR0 : Hid (checkR l = 0) := Lib.hid (HR.out.trans hR0)
    have cg := gone_any 77 true (fun Γ => wrong_free Γ) l hs (checkR_ok HR0.out) ok y c w1 (HROW.out.below hb1) (fun b hb => Nat.lt_of_lt_of_le (HOK.out b hb) hb1.size)
    have HB1 := Lib.hid hb1
    clear hR0 HR hb1
    go_wp2_with fail
    refine cg.mono ?_
    clear cg
    rintro e w2 (⟨wb, eb, cb, rfl, h1, h2, h3, h4, h5, h6⟩ | ⟨h0, -⟩)
    · have hl := missE_len (evX l)
      have hl2 := evSs_len l [none] 0
      have cr := rising_any eb _ (by unfold evX at hl; unfold evX; omega) w2 h3
      have HB2 : Hid (Below w.heap.size w w2) := Lib.hid (HB1.out.trans (h6.mono HB1.out.size))
      clear h3 h4 h5 h6 hl hl2
      go_wp2_with fail
      refine cr.mono ?_
      clear cr
      rintro e w3 ⟨v, rfl, hown, hb3⟩
      have HO := Lib.hid hown
      have HB3 : Hid (Below w.heap.size w w3) := Lib.hid (HB2.out.trans (hb3.mono HB2.out.size))
      have HSZ := Lib.hid HB2.out.size
      clear hown hb3 h1 h2
      go_wp2_with fail
      go_ret
      refine ⟨v, rfl, ?_, HB3.out⟩
      unfold sfreeR
      rw [if_pos HR0.out]
      exact ownsRow_low HO.out HSZ.out
    · cases h0
  · have Q : (R != 0) = true := by simp [hR0]
    have HR0 : Hid (R ≠ 0) := Lib.hid hR0
    have HB1 := Lib.hid hb1
    clear hR0 hb1
    go_wp2_with fail
    go_ret
    refine ⟨_, rfl, ?_, HB1.out⟩
    unfold sfreeR
    rw [if_neg (by rw [HR.out]; exact HR0.out)]
    exact World.ownsRow_nil _ _ _ _
set_option maxHeartbeats 4000000 in
set_option maxRecDepth 100000 in
theorem scall_any (l : List Nd) (hs : wtL l < 2 ^ 38) (ok : Nat → Prop) (y : Option Addr) (c : Nat) (w : World) (hG : Gl w) (hrow : NdRow w ok l y) (hok : ∀ b, ok b → b < w.heap.size) :
    Calls Tryz.prog 42 #[.slice y l.length c] w (NamesEnd (scallR l) w) := by
  have c0 := check_any ok l (by omega) y c w hG hrow
  have HROW := Lib.hid hrow
  have HOK := Lib.hid hok
  clear hG hrow hok
  obtain ⟨R, hR⟩ : ∃ R, checkR l = R := ⟨_, rfl⟩
  rw [hR] at c0
  have HR := Lib.hid hR
  clear hR
  go_enter Tryz.func42, Tryz.ntmps42
  go_wp2_with fail
  refine c0.mono ?_
  clear c0
  rintro e w1 ⟨rfl, hb1⟩
  by_cases hR0 : R = 0
  · have Q : (R != 0) = false := by simp [hR0]
    have HR0 : Hid (checkR l = 0) := Lib.hid (HR.out.trans hR0)
    have cg := gone_any 78 true (fun Γ => wrong_calls Γ) l hs (checkR_ok HR0.out) ok y c w1 (HROW.out.below hb1) (fun b hb => Nat.lt_of_lt_of_le (HOK.out b hb) hb1.size)
    have HB1 := Lib.hid hb1
    clear hR0 HR hb1
    go_wp2_with fail
    refine cg.mono ?_
    clear cg
    rintro e w2 (⟨wb, eb, cb, rfl, h1, h2, h3, h4, h5, h6⟩ | ⟨h0, -⟩)
    · have hl := calledE_len (evX l)
      have hl2 := evSs_len l [none] 0
      have cr := rising_any cb _ (by unfold evX at hl; unfold evX; omega) w2 h4
      have HB2 : Hid (Below w.heap.size w w2) := Lib.hid (HB1.out.trans (h6.mono HB1.out.size))
      clear h3 h4 h5 h6 hl hl2
      go_wp2_with fail
      refine cr.mono ?_
      clear cr
      rintro e w3 ⟨v, rfl, hown, hb3⟩
      have HO := Lib.hid hown
      have HB3 : Hid (Below w.heap.size w w3) := Lib.hid (HB2.out.trans (hb3.mono HB2.out.size))
      have HSZ := Lib.hid HB2.out.size
      clear hown hb3 h1 h2
      go_wp2_with fail
      go_ret
      refine ⟨v, rfl, ?_, HB3.out⟩
      unfold scallR
      rw [if_pos HR0.out]
      exact ownsRow_low HO.out HSZ.out
    · cases h0
  · have Q : (R != 0) = true := by simp [hR0]
    have HR0 : Hid (R ≠ 0) := Lib.hid hR0
    have HB1 := Lib.hid hb1
    clear hR0 hb1
    go_wp2_with fail
    go_ret
    refine ⟨_, rfl, ?_, HB1.out⟩
    unfold scallR
    rw [if_neg (by rw [HR.out]; exact HR0.out)]
    exact World.ownsRow_nil _ _ _ _
end Go.Proofs.YtpbkeamjdolpgaaGreatDoor
