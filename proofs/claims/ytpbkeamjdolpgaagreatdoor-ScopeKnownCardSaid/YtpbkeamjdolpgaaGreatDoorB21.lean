/- The walk of the printer's expr: signs between. The walk of the printer's expr: lists. The walk of the printer's expr: calls. The walk of the printer's rows. The printer's expressions, whole. -/
import Derived.Test.YtpbkeamjdolpgaaGreatDoorB19
import Derived.StillTailTactics
import Derived.Test.YtpbkeamjdolpgaaGreatDoorB20
namespace Go.Proofs.YtpbkeamjdolpgaaGreatDoor
open Go.RowKit Go.Lib Go.Shelf Go.Sort

set_option maxHeartbeats 4000000 in
set_option maxRecDepth 100000 in
theorem ex_12c (n : List UInt8) (p : Int) (k1 : Int) (n1 : List UInt8) (m1 : List Nd) (p1 : Int) (E1 : Hid (ExP (.mk k1 n1 m1 p1))) (k2 : Int) (n2 : List UInt8) (m2 : List Nd) (p2 : Int) (E2 : Hid (ExP (.mk k2 n2 m2 p2))) (ht : levelS n ≠ 3) (kids : List Nd) (hks : kids = [.mk k1 n1 m1 p1, .mk k2 n2 m2 p2]) : ExP (.mk 12 n kids p) := by
  intro b l g w v a hP hv ha hlen
  obtain ⟨y, c, rfl, hrow⟩ := hv
  obtain ⟨kb, ko, rfl, _⟩ := hrow.at_ (i := 0) (x := .mk k1 n1 m1 p1) (by rw [hks]; rfl)
  have hm : kids.length = 2 := by rw [hks]; rfl
  have hkl : (Nd.mk 12 n kids p).kids.length < 2 ^ 62 := by show kids.length < _; omega
  have hg1 : Hid (kids[0]? = some (.mk k1 n1 m1 p1)) := by
    show _ = _
    rw [hks]; rfl
  have hg2 : Hid (kids[1]? = some (.mk k2 n2 m2 p2)) := by
    show _ = _
    rw [hks]; rfl
  have HM := Lib.hid hm
  have HKS := Lib.hid hks
  have hA : ∀ o, Below w.heap.size w (w.alloc o) := fun o => (Below.refl _ _).alloc (Nat.le_refl _) _
  have S0 : ExS b g w kids w.heap.size 12 n (some ⟨kb, ko, none⟩) c p l g (w.alloc (ndO 12 n (some ⟨kb, ko, none⟩) kids.length c p)) := ⟨hP.below (hA _), PrOw.of_below (hA _), Box4.new w _ _ _ _, hrow.below (hA _), by have := hP.lt; omega, fun e => by have := hP.buf e.symm; omega⟩
  have C : Hid (∀ W, Below (w.alloc (ndO 12 n (some ⟨kb, ko, none⟩) kids.length c p)).heap.size (w.alloc (ndO 12 n (some ⟨kb, ko, none⟩) kids.length c p)) W → Calls Tryz.prog 151 #[.agg #[.int .i64 12, .string ⟨n.toArray⟩, .slice (some ⟨kb, ko, none⟩) kids.length c, .int .i64 p]] W fun e w' => e = .returned (.int .i64 (tightR (.mk 12 n kids p))) ∧ Below W.heap.size W w') := fun W hb =>
    tight_any (fun k => k < b) (.mk 12 n kids p) hkl _ W ⟨some ⟨kb, ko, none⟩, c, rfl, S0.row.below hb⟩
  have HS0 := Lib.hid S0
  have HLEN := Lib.hid hlen
  have HAA := Lib.hid ha
  have HX : Hid (exT (.mk 12 n kids p) a = parT (decide (tightR (.mk 12 n kids p) < a)) (bodyT 12 n (exTs kids (asksR 12 (tightR (.mk 12 n kids p)) kids.length)) (ex0s kids) (grT kids))) := by
    show _ = _
    rw [exT]
  obtain ⟨T, hT⟩ : ∃ T, tightR (.mk 12 n kids p) = T := ⟨_, rfl⟩
  obtain ⟨B, hB⟩ : ∃ B, bodyT 12 n (exTs kids (asksR 12 T kids.length)) (ex0s kids) (grT kids) = B := ⟨_, rfl⟩
  obtain ⟨X, hX⟩ : ∃ X, exT (.mk 12 n kids p) a = X := ⟨_, rfl⟩
  rw [hT] at C HX
  rw [hB] at HX
  rw [hX] at HX HLEN ⊢
  have HT := Lib.hid hT
  have HB := Lib.hid hB
  clear hlen ha hT hB hX hA hP S0 hm hks hkl 
  unfold ndO at C HS0
  generalize c.val = c at C HS0 ⊢
  rw [HM.out] at C HS0 ⊢
  go_enter_defers Tryz.func95, Tryz.ntmps95
  go_wp2_with fail
  generalize w.alloc (.cells #[.int .i64 12, .string ⟨n.toArray⟩, .slice (some ⟨kb, ko, none⟩) 2 c, .int .i64 p] 53) = wA at *
  generalize hbx : w.heap.size = bx at *
  obtain ⟨x0, x1, x2, x3, _⟩ := HS0.out.box.facts
  rw [HM.out] at x2
  have y0 := cell_regrown x0
  have y1 := cell_regrown x1
  have y2 := cell_regrown x2
  have y3 := cell_regrown x3
  have cE := fun d os => Calls.regrown_of (C.out _ (below_regrown wA d os))
  clear hbx C
  refine wp_region_quiet_below (by kernel_rfl) (by kernel_rfl) ?_
  repeat (go_big_quiet_step (exact cE _ _))
  refine wpQuiet_nil ?_
  intro _ hw'
  obtain ⟨⟨dq, osq⟩, hw''⟩ := hw'
  subst hw''
  have hb2 := below_regrown wA dq osq
  generalize grow (redrawn wA dq) osq = w2 at *
  have HS2 : Hid (ExS b g w kids bx 12 n (some ⟨kb, ko, none⟩) c p l g w2) := ⟨HS0.out.st.below hb2, HS0.out.ow.below hb2, Box4.below HS0.out.box hb2, HS0.out.row.below hb2, HS0.out.ne, HS0.out.hg⟩
  clear y0 y1 y2 y3 cE x0 x1 x2 x3 hb2 HS0
  have e3 : T ≠ 3 := by
    rw [← HT.out, HKS.out]
    exact ht
  have hT8 : T ≤ 5 := by
    rw [← HT.out, HKS.out]
    exact levelS_le n
  have q3 : (T == 3) = false := beq_eq_false_iff_ne.2 e3
  have q3' : ((T : Int) == 3) = false := beq_eq_false_iff_ne.2 (by omega)
  have HA3 : asksR 12 T 2 = [T, T + 1] := by
    show [if T = 3 then 4 else T, T + 1] = _
    rw [if_neg e3]
  clear e3
  have HBB : Hid (B = exT (.mk k1 n1 m1 p1) T ++ ([32] ++ n ++ [32]) ++ exT (.mk k2 n2 m2 p2) (T + 1)) := by
    show B = _
    rw [← HB.out, HKS.out]
    show bodyT 12 n (exTs _ (asksR 12 T 2)) _ _ = _
    rw [HA3]
    rfl
  clear HB HA3
  have hnl : n.length + 2 ≤ 2 ^ 46 := by
    have h1 := HLEN.out
    rw [HX.out] at h1
    have h2 := parT_len (decide (T < a)) B
    rw [HBB.out] at h1 h2
    simp at h1 h2
    omega
  obtain ⟨A1, hA1⟩ : ∃ A1, A1 = [32] ++ n := ⟨_, rfl⟩
  obtain ⟨A2, hA2⟩ : ∃ A2, A2 = [32] ++ n ++ [32] := ⟨_, rfl⟩
  have f1 : ∀ W, (Op.stringOp .add ⟨#[32]⟩ ⟨n.toArray⟩).run Tryz.prog W = .ok (.string ⟨A1.toArray⟩) W := cat_run [32] n A1 hA1 (by simp; omega)
  have f2 : ∀ W, (Op.stringOp .add ⟨A1.toArray⟩ ⟨#[32]⟩).run Tryz.prog W = .ok (.string ⟨A2.toArray⟩) W := cat_run A1 [32] A2 (by rw [hA2, hA1]) (by rw [hA1]; simp; omega)
  rw [← hA2] at HBB
  clear hA1 hA2 hnl
  by_cases hq : T < a
  · have Q : decide (T < a) = true := decide_eq_true hq
    have HX2 : Hid (X = [40] ++ B ++ [41]) := by
      have := HX.out
      rw [decide_eq_true hq] at this
      exact this
    have HL2 : Hid (l.length + ([40] ++ B ++ [41]).length ≤ 2 ^ 46) := by
      have := HLEN.out
      rw [HX2.out] at this
      exact this
    clear hq HX HLEN
    go_wp2_with fail
    refine (write_any b l [40] _ _ HS2.out.st (by have := HL2.out; simp at this ⊢; omega)).mono ?_
    rintro e v0 ⟨rfl, g0, hp, ho⟩
    have HV0 := Lib.hid (HS2.out.step hp ho)
    clear hp ho HS2
    obtain ⟨x0, x1, x2, x3, _⟩ := HV0.out.box.facts
    rw [HM.out] at x2
    obtain ⟨_, z0, z1, z3, ya, ca, z2, hra⟩ := HV0.out.row.get hg1.out
    simp only [Nat.zero_mul, Nat.add_zero] at z0 z1 z2 z3
    have HRA := Lib.hid hra
    clear hra
    go_wp2_with fail
    refine (E1.out b (l ++ [40]) _ _ _ (T) HV0.out.st ⟨ya, ca, rfl, HRA.out⟩ (by omega) (by rw [HBB.out] at HL2; have := HL2.out; simp at this ⊢; omega)).mono ?_
    clear z0 z1 z2 z3 HRA
    rintro e v10 ⟨rfl, g10, hp, ho⟩
    have HV10 := Lib.hid (HV0.out.step hp ho)
    clear hp ho HV0
    obtain ⟨x0, x1, x2, x3, _⟩ := HV10.out.box.facts
    rw [HM.out] at x2
    go_wp2_with fail
    have HD31 := Lib.hid (HV10.out.drew)
    clear HV10
    go_still_tail 7, (by kernel_rfl)
    change wpList _ _ _ _ _ (World.drew v10)
    generalize World.drew v10 = d31 at *
    clear x0 x1 x2 x3
    go_wp2_with fail
    refine (write_any b ((l ++ [40]) ++ exT (.mk k1 n1 m1 p1) T) A2 _ _ HD31.out.st (by rw [HBB.out] at HL2; have := HL2.out; simp at this ⊢; omega)).mono ?_
    rintro e v11 ⟨rfl, g11, hp, ho⟩
    have HV11 := Lib.hid (HD31.out.step hp ho)
    clear hp ho HD31
    obtain ⟨_, z0, z1, z3, ya, ca, z2, hra⟩ := HV11.out.row.get hg2.out
    simp only [Nat.one_mul, Nat.reduceAdd, Nat.add_assoc] at z0 z1 z2 z3
    have HRA := Lib.hid hra
    clear hra
    go_wp2_with fail
    refine (E2.out b (((l ++ [40]) ++ exT (.mk k1 n1 m1 p1) T) ++ A2) _ _ _ ((T + 1)) HV11.out.st ⟨ya, ca, rfl, HRA.out⟩ (by omega) (by rw [HBB.out] at HL2; have := HL2.out; simp at this ⊢; omega)).mono ?_
    clear z0 z1 z2 z3 HRA
    rintro e v12 ⟨rfl, g12, hp, ho⟩
    have HV12 := Lib.hid (HV11.out.step hp ho)
    clear hp ho HV11
    go_wp2_with fail
    refine ex_out_par HV12.out.st HV12.out.ow (by rw [HBB.out] at HX2 HL2; rw [HX2.out]; try simp [List.append_assoc]) (by rw [HBB.out] at HX2 HL2; have := HL2.out; simp at this ⊢; omega)
  · have Q : decide (T < a) = false := decide_eq_false hq
    have HX2 : Hid (X = B) := by
      have := HX.out
      rw [decide_eq_false hq] at this
      exact this
    have HL2 : Hid (l.length + B.length ≤ 2 ^ 46) := by
      have := HLEN.out
      rw [HX2.out] at this
      exact this
    clear hq HX HLEN
    obtain ⟨x0, x1, x2, x3, _⟩ := HS2.out.box.facts
    rw [HM.out] at x2
    obtain ⟨_, z0, z1, z3, ya, ca, z2, hra⟩ := HS2.out.row.get hg1.out
    simp only [Nat.zero_mul, Nat.add_zero] at z0 z1 z2 z3
    have HRA := Lib.hid hra
    clear hra
    go_wp2_with fail
    refine (E1.out b l _ _ _ (T) HS2.out.st ⟨ya, ca, rfl, HRA.out⟩ (by omega) (by rw [HBB.out] at HL2; have := HL2.out; simp at this ⊢; omega)).mono ?_
    clear z0 z1 z2 z3 HRA
    rintro e v10 ⟨rfl, g10, hp, ho⟩
    have HV10 := Lib.hid (HS2.out.step hp ho)
    clear hp ho HS2
    obtain ⟨x0, x1, x2, x3, _⟩ := HV10.out.box.facts
    rw [HM.out] at x2
    go_wp2_with fail
    have HD31 := Lib.hid (HV10.out.drew)
    clear HV10
    go_still_tail 7, (by kernel_rfl)
    change wpList _ _ _ _ _ (World.drew v10)
    generalize World.drew v10 = d31 at *
    clear x0 x1 x2 x3
    go_wp2_with fail
    refine (write_any b (l ++ exT (.mk k1 n1 m1 p1) T) A2 _ _ HD31.out.st (by rw [HBB.out] at HL2; have := HL2.out; simp at this ⊢; omega)).mono ?_
    rintro e v11 ⟨rfl, g11, hp, ho⟩
    have HV11 := Lib.hid (HD31.out.step hp ho)
    clear hp ho HD31
    obtain ⟨_, z0, z1, z3, ya, ca, z2, hra⟩ := HV11.out.row.get hg2.out
    simp only [Nat.one_mul, Nat.reduceAdd, Nat.add_assoc] at z0 z1 z2 z3
    have HRA := Lib.hid hra
    clear hra
    go_wp2_with fail
    refine (E2.out b ((l ++ exT (.mk k1 n1 m1 p1) T) ++ A2) _ _ _ ((T + 1)) HV11.out.st ⟨ya, ca, rfl, HRA.out⟩ (by omega) (by rw [HBB.out] at HL2; have := HL2.out; simp at this ⊢; omega)).mono ?_
    clear z0 z1 z2 z3 HRA
    rintro e v12 ⟨rfl, g12, hp, ho⟩
    have HV12 := Lib.hid (HV11.out.step hp ho)
    clear hp ho HV11
    go_wp2_with fail
    refine ex_out HV12.out.st HV12.out.ow (by rw [HBB.out] at HX2; rw [HX2.out]; try simp [List.append_assoc])
end Go.Proofs.YtpbkeamjdolpgaaGreatDoor
namespace Go.Proofs.YtpbkeamjdolpgaaGreatDoor
open Go.RowKit Go.Lib Go.Shelf Go.Sort

set_option maxHeartbeats 4000000 in
set_option maxRecDepth 100000 in
theorem ex_11 (n : List UInt8) (kids : List Nd) (p : Int) (hkl : kids.length < 2 ^ 62) (R : Hid (RoP kids)) : ExP (.mk 11 n kids p) := by
  intro b l g w v a hP hv ha hlen
  obtain ⟨y, c, rfl, hrow⟩ := hv
  have hA : ∀ o, Below w.heap.size w (w.alloc o) := fun o => (Below.refl _ _).alloc (Nat.le_refl _) _
  have S0 : ExS b g w kids w.heap.size 11 n y c p l g (w.alloc (ndO 11 n y kids.length c p)) := ⟨hP.below (hA _), PrOw.of_below (hA _), Box4.new w _ _ _ _, hrow.below (hA _), by have := hP.lt; omega, fun e => by have := hP.buf e.symm; omega⟩
  have C : Hid (∀ W, Below (w.alloc (ndO 11 n y kids.length c p)).heap.size (w.alloc (ndO 11 n y kids.length c p)) W → Calls Tryz.prog 151 #[.agg #[.int .i64 11, .string ⟨n.toArray⟩, .slice y kids.length c, .int .i64 p]] W fun e w' => e = .returned (.int .i64 (tightR (.mk 11 n kids p))) ∧ Below W.heap.size W w') := fun W hb =>
    tight_any (fun k => k < b) (.mk 11 n kids p) hkl _ W ⟨y, c, rfl, S0.row.below hb⟩
  have HS0 := Lib.hid S0
  have HLEN := Lib.hid hlen
  have HAA := Lib.hid ha
  have HX : Hid (exT (.mk 11 n kids p) a = parT (decide (tightR (.mk 11 n kids p) < a)) (bodyT 11 n (exTs kids (asksR 11 (tightR (.mk 11 n kids p)) kids.length)) (ex0s kids) (grT kids))) := by
    show _ = _
    rw [exT]
  obtain ⟨T, hT⟩ : ∃ T, tightR (.mk 11 n kids p) = T := ⟨_, rfl⟩
  obtain ⟨B, hB⟩ : ∃ B, bodyT 11 n (exTs kids (asksR 11 T kids.length)) (ex0s kids) (grT kids) = B := ⟨_, rfl⟩
  obtain ⟨X, hX⟩ : ∃ X, exT (.mk 11 n kids p) a = X := ⟨_, rfl⟩
  rw [hT] at C HX
  rw [hB] at HX
  rw [hX] at HX HLEN ⊢
  have HT := Lib.hid hT
  have HB := Lib.hid hB
  clear hlen ha hT hB hX hA hrow hP S0 
  unfold ndO at C HS0
  go_enter_defers Tryz.func95, Tryz.ntmps95
  go_wp2_with fail
  generalize w.alloc (.cells #[.int .i64 11, .string ⟨n.toArray⟩, .slice y kids.length c, .int .i64 p] 53) = wA at *
  generalize hbx : w.heap.size = bx at *
  obtain ⟨x0, x1, x2, x3, _⟩ := HS0.out.box.facts
  have y0 := cell_regrown x0
  have y1 := cell_regrown x1
  have y2 := cell_regrown x2
  have y3 := cell_regrown x3
  have cE := fun d os => Calls.regrown_of (C.out _ (below_regrown wA d os))
  clear hbx C
  refine wp_region_quiet_below (by kernel_rfl) (by kernel_rfl) ?_
  repeat (go_big_quiet_step (exact cE _ _))
  refine wpQuiet_nil ?_
  intro _ hw'
  obtain ⟨⟨dq, osq⟩, hw''⟩ := hw'
  subst hw''
  have hb2 := below_regrown wA dq osq
  generalize grow (redrawn wA dq) osq = w2 at *
  have HS2 : Hid (ExS b g w kids bx 11 n y c p l g w2) := ⟨HS0.out.st.below hb2, HS0.out.ow.below hb2, Box4.below HS0.out.box hb2, HS0.out.row.below hb2, HS0.out.ne, HS0.out.hg⟩
  clear y0 y1 y2 y3 cE x0 x1 x2 x3 hb2 HS0
  have HBB : Hid (B = [91] ++ joinC (ex0s kids) ++ [93]) := by
    show B = _
    rw [← HB.out]
    rfl
  clear HB
  by_cases hq : T < a
  · have Q : decide (T < a) = true := decide_eq_true hq
    have HX2 : Hid (X = [40] ++ B ++ [41]) := by
      have := HX.out
      rw [decide_eq_true hq] at this
      exact this
    have HL2 : Hid (l.length + ([40] ++ B ++ [41]).length ≤ 2 ^ 46) := by
      have := HLEN.out
      rw [HX2.out] at this
      exact this
    clear hq HX HLEN
    go_wp2_with fail
    refine (write_any b l [40] _ _ HS2.out.st (by have := HL2.out; simp at this ⊢; omega)).mono ?_
    rintro e v0 ⟨rfl, g0, hp, ho⟩
    have HV0 := Lib.hid (HS2.out.step hp ho)
    clear hp ho HS2
    obtain ⟨x0, x1, x2, x3, _⟩ := HV0.out.box.facts
    go_wp2_with fail
    clear x0 x1 x2 x3
    refine (R.out b (l ++ [40]) [91] [93] _ _ y c HV0.out.st HV0.out.row (by rw [HBB.out] at HL2; have := HL2.out; simp at this ⊢; omega)).mono ?_
    rintro e v10 ⟨rfl, g10, hp, ho⟩
    have HV10 := Lib.hid (HV0.out.step hp ho)
    clear hp ho HV0
    go_wp2_with fail
    refine ex_out_par HV10.out.st HV10.out.ow (by rw [HBB.out] at HX2 HL2; rw [HX2.out]; try simp [List.append_assoc]) (by rw [HBB.out] at HX2 HL2; have := HL2.out; simp at this ⊢; omega)
  · have Q : decide (T < a) = false := decide_eq_false hq
    have HX2 : Hid (X = B) := by
      have := HX.out
      rw [decide_eq_false hq] at this
      exact this
    have HL2 : Hid (l.length + B.length ≤ 2 ^ 46) := by
      have := HLEN.out
      rw [HX2.out] at this
      exact this
    clear hq HX HLEN
    obtain ⟨x0, x1, x2, x3, _⟩ := HS2.out.box.facts
    go_wp2_with fail
    clear x0 x1 x2 x3
    refine (R.out b l [91] [93] _ _ y c HS2.out.st HS2.out.row (by rw [HBB.out] at HL2; have := HL2.out; simp at this ⊢; omega)).mono ?_
    rintro e v10 ⟨rfl, g10, hp, ho⟩
    have HV10 := Lib.hid (HS2.out.step hp ho)
    clear hp ho HS2
    go_wp2_with fail
    refine ex_out HV10.out.st HV10.out.ow (by rw [HBB.out] at HX2; rw [HX2.out]; try simp [List.append_assoc])
end Go.Proofs.YtpbkeamjdolpgaaGreatDoor
namespace Go.Proofs.YtpbkeamjdolpgaaGreatDoor
open Go.RowKit Go.Lib Go.Shelf Go.Sort

set_option maxHeartbeats 4000000 in
set_option maxRecDepth 100000 in
theorem ex_13 (n : List UInt8) (p : Int) (k1 : Int) (n1 : List UInt8) (m1 : List Nd) (p1 : Int)  (R : Hid (RoP m1)) (kids : List Nd) (hks : kids = [.mk k1 n1 m1 p1]) : ExP (.mk 13 n kids p) := by
  intro b l g w v a hP hv ha hlen
  obtain ⟨y, c, rfl, hrow⟩ := hv
  obtain ⟨kb, ko, rfl, _⟩ := hrow.at_ (i := 0) (x := .mk k1 n1 m1 p1) (by rw [hks]; rfl)
  have hm : kids.length = 1 := by rw [hks]; rfl
  have hkl : (Nd.mk 13 n kids p).kids.length < 2 ^ 62 := by show kids.length < _; omega
  have hg1 : Hid (kids[0]? = some (.mk k1 n1 m1 p1)) := by
    show _ = _
    rw [hks]; rfl
  have HM := Lib.hid hm
  have HKS := Lib.hid hks
  have hA : ∀ o, Below w.heap.size w (w.alloc o) := fun o => (Below.refl _ _).alloc (Nat.le_refl _) _
  have S0 : ExS b g w kids w.heap.size 13 n (some ⟨kb, ko, none⟩) c p l g (w.alloc (ndO 13 n (some ⟨kb, ko, none⟩) kids.length c p)) := ⟨hP.below (hA _), PrOw.of_below (hA _), Box4.new w _ _ _ _, hrow.below (hA _), by have := hP.lt; omega, fun e => by have := hP.buf e.symm; omega⟩
  have C : Hid (∀ W, Below (w.alloc (ndO 13 n (some ⟨kb, ko, none⟩) kids.length c p)).heap.size (w.alloc (ndO 13 n (some ⟨kb, ko, none⟩) kids.length c p)) W → Calls Tryz.prog 151 #[.agg #[.int .i64 13, .string ⟨n.toArray⟩, .slice (some ⟨kb, ko, none⟩) kids.length c, .int .i64 p]] W fun e w' => e = .returned (.int .i64 (tightR (.mk 13 n kids p))) ∧ Below W.heap.size W w') := fun W hb =>
    tight_any (fun k => k < b) (.mk 13 n kids p) hkl _ W ⟨some ⟨kb, ko, none⟩, c, rfl, S0.row.below hb⟩
  have HS0 := Lib.hid S0
  have HLEN := Lib.hid hlen
  have HAA := Lib.hid ha
  have HX : Hid (exT (.mk 13 n kids p) a = parT (decide (tightR (.mk 13 n kids p) < a)) (bodyT 13 n (exTs kids (asksR 13 (tightR (.mk 13 n kids p)) kids.length)) (ex0s kids) (grT kids))) := by
    show _ = _
    rw [exT]
  obtain ⟨T, hT⟩ : ∃ T, tightR (.mk 13 n kids p) = T := ⟨_, rfl⟩
  obtain ⟨B, hB⟩ : ∃ B, bodyT 13 n (exTs kids (asksR 13 T kids.length)) (ex0s kids) (grT kids) = B := ⟨_, rfl⟩
  obtain ⟨X, hX⟩ : ∃ X, exT (.mk 13 n kids p) a = X := ⟨_, rfl⟩
  rw [hT] at C HX
  rw [hB] at HX
  rw [hX] at HX HLEN ⊢
  have HT := Lib.hid hT
  have HB := Lib.hid hB
  clear hlen ha hT hB hX hA hP S0 hm hks hkl 
  unfold ndO at C HS0
  generalize c.val = c at C HS0 ⊢
  rw [HM.out] at C HS0 ⊢
  go_enter_defers Tryz.func95, Tryz.ntmps95
  go_wp2_with fail
  generalize w.alloc (.cells #[.int .i64 13, .string ⟨n.toArray⟩, .slice (some ⟨kb, ko, none⟩) 1 c, .int .i64 p] 53) = wA at *
  generalize hbx : w.heap.size = bx at *
  obtain ⟨x0, x1, x2, x3, _⟩ := HS0.out.box.facts
  rw [HM.out] at x2
  have y0 := cell_regrown x0
  have y1 := cell_regrown x1
  have y2 := cell_regrown x2
  have y3 := cell_regrown x3
  have cE := fun d os => Calls.regrown_of (C.out _ (below_regrown wA d os))
  clear hbx C
  refine wp_region_quiet_below (by kernel_rfl) (by kernel_rfl) ?_
  repeat (go_big_quiet_step (exact cE _ _))
  refine wpQuiet_nil ?_
  intro _ hw'
  obtain ⟨⟨dq, osq⟩, hw''⟩ := hw'
  subst hw''
  have hb2 := below_regrown wA dq osq
  generalize grow (redrawn wA dq) osq = w2 at *
  have HS2 : Hid (ExS b g w kids bx 13 n (some ⟨kb, ko, none⟩) c p l g w2) := ⟨HS0.out.st.below hb2, HS0.out.ow.below hb2, Box4.below HS0.out.box hb2, HS0.out.row.below hb2, HS0.out.ne, HS0.out.hg⟩
  clear y0 y1 y2 y3 cE x0 x1 x2 x3 hb2 HS0
  have HBB : Hid (B = n ++ [40] ++ joinC (ex0s m1) ++ [41]) := by
    show B = _
    rw [← HB.out, HKS.out]
    rfl
  clear HB
  have hnl : n.length + 2 ≤ 2 ^ 46 := by
    have h1 := HLEN.out
    rw [HX.out] at h1
    have h2 := parT_len (decide (T < a)) B
    rw [HBB.out] at h1 h2
    simp at h1 h2
    omega
  obtain ⟨A1, hA1⟩ : ∃ A1, A1 = n ++ [40] := ⟨_, rfl⟩
  have f1 : ∀ W, (Op.stringOp .add ⟨n.toArray⟩ ⟨#[40]⟩).run Tryz.prog W = .ok (.string ⟨A1.toArray⟩) W := cat_run n [40] A1 hA1 (by simp; omega)
  rw [← hA1] at HBB
  clear hA1 hnl
  by_cases hq : T < a
  · have Q : decide (T < a) = true := decide_eq_true hq
    have HX2 : Hid (X = [40] ++ B ++ [41]) := by
      have := HX.out
      rw [decide_eq_true hq] at this
      exact this
    have HL2 : Hid (l.length + ([40] ++ B ++ [41]).length ≤ 2 ^ 46) := by
      have := HLEN.out
      rw [HX2.out] at this
      exact this
    clear hq HX HLEN
    go_wp2_with fail
    refine (write_any b l [40] _ _ HS2.out.st (by have := HL2.out; simp at this ⊢; omega)).mono ?_
    rintro e v0 ⟨rfl, g0, hp, ho⟩
    have HV0 := Lib.hid (HS2.out.step hp ho)
    clear hp ho HS2
    obtain ⟨x0, x1, x2, x3, _⟩ := HV0.out.box.facts
    rw [HM.out] at x2
    obtain ⟨_, z0, z1, z3, ya, ca, z2, hra⟩ := HV0.out.row.get hg1.out
    simp only [Nat.zero_mul, Nat.add_zero] at z0 z1 z2 z3
    have HRA := Lib.hid hra
    clear hra
    go_wp2_with fail
    have HD30 := Lib.hid (HV0.out.drew)
    clear HV0
    go_still_tail 8, (by kernel_rfl)
    have HRB := Lib.hid (HRA.out.below (Below.drew (Below.refl _ _)))
    change wpList _ _ _ _ _ (World.drew v0)
    generalize World.drew v0 = d30 at *
    clear HRA x0 x1 x2 x3
    go_wp2_with fail
    refine (R.out b (l ++ [40]) A1 [41] _ _ ya ca HD30.out.st HRB.out (by rw [HBB.out] at HL2; have := HL2.out; simp at this ⊢; omega)).mono ?_
    rintro e v10 ⟨rfl, g10, hp, ho⟩
    have HV10 := Lib.hid (HD30.out.step hp ho)
    clear hp ho HD30
    go_wp2_with fail
    refine ex_out_par HV10.out.st HV10.out.ow (by rw [HBB.out] at HX2 HL2; rw [HX2.out]; try simp [List.append_assoc]) (by rw [HBB.out] at HX2 HL2; have := HL2.out; simp at this ⊢; omega)
  · have Q : decide (T < a) = false := decide_eq_false hq
    have HX2 : Hid (X = B) := by
      have := HX.out
      rw [decide_eq_false hq] at this
      exact this
    have HL2 : Hid (l.length + B.length ≤ 2 ^ 46) := by
      have := HLEN.out
      rw [HX2.out] at this
      exact this
    clear hq HX HLEN
    obtain ⟨x0, x1, x2, x3, _⟩ := HS2.out.box.facts
    rw [HM.out] at x2
    obtain ⟨_, z0, z1, z3, ya, ca, z2, hra⟩ := HS2.out.row.get hg1.out
    simp only [Nat.zero_mul, Nat.add_zero] at z0 z1 z2 z3
    have HRA := Lib.hid hra
    clear hra
    go_wp2_with fail
    have HD30 := Lib.hid (HS2.out.drew)
    clear HS2
    go_still_tail 8, (by kernel_rfl)
    have HRB := Lib.hid (HRA.out.below (Below.drew (Below.refl _ _)))
    change wpList _ _ _ _ _ (World.drew w2)
    generalize World.drew w2 = d30 at *
    clear HRA x0 x1 x2 x3
    go_wp2_with fail
    refine (R.out b l A1 [41] _ _ ya ca HD30.out.st HRB.out (by rw [HBB.out] at HL2; have := HL2.out; simp at this ⊢; omega)).mono ?_
    rintro e v10 ⟨rfl, g10, hp, ho⟩
    have HV10 := Lib.hid (HD30.out.step hp ho)
    clear hp ho HD30
    go_wp2_with fail
    refine ex_out HV10.out.st HV10.out.ow (by rw [HBB.out] at HX2; rw [HX2.out]; try simp [List.append_assoc])
end Go.Proofs.YtpbkeamjdolpgaaGreatDoor
namespace Go.Proofs.YtpbkeamjdolpgaaGreatDoor
open Go.RowKit Go.Lib Go.Shelf Go.Sort

theorem joinC_take {l : List (List UInt8)} {i : Nat} {x : List UInt8} (h : l[i]? = some x) : joinC (l.take (i + 1)) = joinC (l.take i) ++ ((if i = 0 then [] else [44, 32]) ++ x) := by
  have e : l.take (i + 1) = l.take i ++ [x] := by rw [List.take_add_one, h]; rfl
  rw [e]
  match i, l, h with
  | 0, y :: r, h =>
    simp at h
    subst h
    simp [joinC]
  | i + 1, y :: r, h =>
    simp [joinC]
theorem joinC_le : ∀ (l : List (List UInt8)) (i : Nat), (joinC (l.take i)).length ≤ (joinC l).length
  | [], _ => by simp [joinC]
  | x :: r, 0 => by simp [joinC]
  | x :: r, i + 1 => by
    have e : (x :: r).take (i + 1) = x :: r.take i := rfl
    rw [e]
    show (x ++ (r.take i).flatMap _).length ≤ (x ++ r.flatMap _).length
    have : r.flatMap (fun y => [44, 32] ++ y) = (r.take i).flatMap (fun y => [44, 32] ++ y) ++ (r.drop i).flatMap (fun y => [44, 32] ++ y) := by
      rw [← List.flatMap_append, List.take_append_drop]
    rw [this]
    simp
theorem ex0s_at : ∀ {l : List Nd} {i : Nat} {x : Nd}, l[i]? = some x → (ex0s l)[i]? = some (exT x 0)
  | _ :: _, 0, x, h => by
    simp at h
    subst h
    rfl
  | _ :: r, i + 1, x, h => ex0s_at (l := r) (i := i) (by simpa using h)
theorem ex0s_len : ∀ l : List Nd, (ex0s l).length = l.length
  | [] => rfl
  | _ :: r => by
    show (ex0s r).length + 1 = r.length + 1
    rw [ex0s_len r]
/-- Behind a node's variable that is new. -/
def boxW (w : World) (v0 v1 v2 v3 : Value) : World := w.alloc (.cells #[v0, v1, v2, v3] 53)
theorem boxW_below (w : World) (v0 v1 v2 v3 : Value) : Below w.heap.size w (boxW w v0 v1 v2 v3) := (Below.refl _ _).alloc (Nat.le_refl _) _
theorem boxW_box (w : World) (v0 v1 v2 v3 : Value) : Box4 (boxW w v0 v1 v2 v3) w.heap.size v0 v1 v2 v3 := Box4.new w _ _ _ _

set_option maxHeartbeats 4000000 in
set_option maxRecDepth 100000 in
theorem row_p (kids : List Nd) (hE : ∀ x ∈ kids, ExP x) (hkl : kids.length < 2 ^ 62) : RoP kids := by
  intro b l s t g w y c hP hrow hlen
  obtain ⟨n, hn⟩ : ∃ n, kids.length = n := ⟨_, rfl⟩
  have HN := Lib.hid hn
  have HE := Lib.hid hE
  have HLEN := Lib.hid hlen
  have HP := Lib.hid hP
  have HROW := Lib.hid hrow
  rw [hn] at hkl ⊢
  obtain ⟨X, hX⟩ : ∃ X, s ++ joinC (ex0s kids) ++ t = X := ⟨_, rfl⟩
  rw [hX]
  have HX := Lib.hid hX
  clear hE hlen hP hrow hn hX
  go_enter Tryz.func96, Tryz.ntmps96
  go_wp2_with fail
  refine (write_any b l s _ _ HP.out (by have := HLEN.out; simp at this; omega)).mono ?_
  rintro e w1 ⟨rfl, g1, hp1, ho1⟩
  have HP1 := Lib.hid hp1
  have HO1 := Lib.hid ho1
  have HROW1 := Lib.hid (HROW.out.pr ho1 fun _ hk => (HP.out.buf hk).1)
  clear hp1 ho1 HROW HP
  go_wp2_with fail
  go_loopg [17] n (fun gf v wx => ∃ (i : Nat) (gx : Option Nat), v = .int .i64 i ∧ i + gf = n ∧ Hid (PrSt b (l ++ s ++ joinC ((ex0s kids).take i)) wx gx ∧ PrOw b g gx w wx ∧ NdRow wx (fun k => k < b) kids y))
  case atStart => exact ⟨0, g1, rfl, by omega, by rw [show joinC ((ex0s kids).take 0) = [] from rfl, List.append_nil]; exact HP1.out, HO1.out, HROW1.out⟩
  case round =>
    obtain ⟨i, gx, rfl, hi, hS⟩ := hrel
    by_cases hlt : i < n
    · obtain ⟨x, hx⟩ : ∃ x, kids[i]? = some x := ⟨kids[i]'(by have := HN.out; omega), List.getElem?_eq_getElem _⟩
      have hex := HE.out x (List.mem_of_getElem? hx)
      have hjt := joinC_take (ex0s_at hx)
      have hjl := joinC_le (ex0s kids) (i + 1)
      obtain ⟨B, o, rfl, hat⟩ := hS.out.2.2.at_ hx
      obtain ⟨k, nm, m, p⟩ := x
      obtain ⟨hok, z0, z1, z3, y', c', z2, hk⟩ := hat
      have HEX := Lib.hid hex
      have HJT := Lib.hid hjt
      have HJL := Lib.hid hjl
      have HK := Lib.hid (hk.below (boxW_below wr (.int .i64 k) (.string ⟨nm.toArray⟩) (.slice y' m.length c') (.int .i64 p)))
      have HB := Lib.hid (boxW_below wr (.int .i64 k) (.string ⟨nm.toArray⟩) (.slice y' m.length c') (.int .i64 p))
      have HBX := Lib.hid (boxW_box wr (.int .i64 k) (.string ⟨nm.toArray⟩) (.slice y' m.length c') (.int .i64 p))
      obtain ⟨u0, u1, u2, u3, _⟩ := HBX.out.facts
      have HS1 := Lib.hid (hS.out.1.below HB.out)
      have HLB := Lib.hid (hok.ok : B < b)
      have HW := Lib.hid hS.out.1.lt
      have HG := Lib.hid (fun k (h : gx = some k) => hS.out.1.buf h)
      have hlt' : (i : Int) < (n : Int) := by omega
      have Qi1 : IntKind.i64.wrap ((i : Int) + 1) = (i : Int) + 1 := IntWalk.i64_in _ (by omega)
      have HSB := Lib.hid (hS.out.2.1.below HB.out)
      have HRB := Lib.hid (hS.out.2.2.below HB.out)
      clear hk hex hjt hjl hx hok hS
      unfold boxW at HK HB HBX HS1 HSB HRB u0 u1 u2 u3
      by_cases hi0 : i = 0
      · have Q0 : decide (0 < i) = false := decide_eq_false (by omega)
        have HI0 := Lib.hid hi0
        clear hi0
        go_wp2_with fail
        refine (HEX.out b _ _ _ _ 0 HS1.out ⟨y', c', rfl, HK.out.wide fun k hk _ => hk⟩ (by omega) ?_).mono ?_
        · have h1 := HLEN.out
          have h2 := HJL.out
          rw [HJT.out, if_pos HI0.out] at h2
          simp at h1 h2 ⊢
          omega
        rintro e w3 ⟨rfl, g3, hp3, ho3⟩
        have HP3 := Lib.hid hp3
        have HO3 := Lib.hid (HSB.out.trans ho3)
        have HR3 := Lib.hid (HRB.out.pr ho3 fun _ hk => (HG.out _ hk).1)
        clear hp3 ho3
        go_wp2_with fail
        go_roundg (gk - 1)
        case measure => omega
        case rel =>
          refine ⟨i + 1, g3, rfl, by omega, ?_, HO3.out, HR3.out⟩
          have := HP3.out
          rw [HJT.out, if_pos HI0.out]
          simpa using this
      · have Q0 : decide (0 < i) = true := decide_eq_true (by omega)
        have Q0' : (i : Int) > 0 := by omega
        go_wp2_with fail
        refine (write_any b (l ++ s ++ joinC ((ex0s kids).take i)) [44, 32] _ _ HS1.out ?_).mono ?_
        · have h1 := HLEN.out
          have h2 := HJL.out
          rw [HJT.out, if_neg hi0] at h2
          simp at h1 h2 ⊢
          omega
        rintro e w2 ⟨rfl, g2, hp2, ho2⟩
        have HBX2 : Hid (Box4 w2 wr.heap.size (.int .i64 k) (.string ⟨nm.toArray⟩) (.slice y' m.length c') (.int .i64 p)) := (ho2.block _ HBX.out.lt (by have := HW.out; omega) (fun e => by have := HG.out _ e.symm; omega)).trans HBX.out
        have HK2 := Lib.hid (HK.out.pr ho2 fun _ hk => (HG.out _ hk).1)
        have HP2 := Lib.hid hp2
        have HO2 := Lib.hid (HSB.out.trans ho2)
        have HR2 := Lib.hid (HRB.out.pr ho2 fun _ hk => (HG.out _ hk).1)
        clear u0 u1 u2 u3 hp2 ho2
        obtain ⟨u0, u1, u2, u3, _⟩ := HBX2.out.facts
        go_wp2_with fail
        refine (HEX.out b _ _ _ _ 0 HP2.out ⟨y', c', rfl, HK2.out⟩ (by omega) ?_).mono ?_
        · have h1 := HLEN.out
          have h2 := HJL.out
          rw [HJT.out, if_neg hi0] at h2
          simp at h1 h2 ⊢
          omega
        rintro e w3 ⟨rfl, g3, hp3, ho3⟩
        have HP3 := Lib.hid hp3
        have HO3 := Lib.hid (HO2.out.trans ho3)
        have HR3 := Lib.hid (HR2.out.pr ho3 fun _ hk => (HP2.out.buf hk).1)
        clear hp3 ho3
        go_wp2_with fail
        go_roundg (gk - 1)
        case measure => omega
        case rel =>
          refine ⟨i + 1, g3, rfl, by omega, ?_, HO3.out, HR3.out⟩
          have := HP3.out
          rw [HJT.out, if_neg hi0]
          simpa using this
    · have hlt' : ¬ (i : Int) < (n : Int) := by omega
      go_wp2_with fail
      have hS2 := hS.out
      rw [List.take_of_length_le (by rw [ex0s_len]; have := HN.out; omega)] at hS2
      have HS2 := Lib.hid hS2
      clear hS hS2
      refine (write_any b _ t _ _ HS2.out.1 ?_).mono ?_
      · have h1 := HLEN.out
        simp at h1 ⊢
        omega
      rintro e w3 ⟨rfl, g3, hp3, ho3⟩
      have HP3 := Lib.hid hp3
      have HO3 := Lib.hid (HS2.out.2.1.trans ho3)
      clear hp3 ho3
      go_wp2_with fail
      go_end0
      refine ⟨rfl, g3, ?_, HO3.out⟩
      have := HP3.out
      rw [← HX.out]
      simpa using this
end Go.Proofs.YtpbkeamjdolpgaaGreatDoor
namespace Go.Proofs.YtpbkeamjdolpgaaGreatDoor
open Go.RowKit Go.Lib Go.Shelf Go.Sort

/-- Every right expression is written as it must be. -/
theorem exp_all : ∀ (N : Nat) (x : Nd), wtN x < N → wtN x < 2 ^ 40 → exR x = true → ExP x
  | 0, _, h, _, _ => by omega
  | N + 1, x, hN, hw, hR => by
    have ih := fun (y : Nd) (h : wtN y < wtN x) (hy : exR y = true) => exp_all N y (by omega) (by omega) hy
    have k1 : ∀ {k n l p} {y : Nd}, x = .mk k n l p → y ∈ l → wtN y < wtN x := fun e hy => e ▸ kid_wt hy
    cases exC_of hR with
    | num s p h => exact ex_leaf 9 s [] p (by decide) (by decide) (by decide) (by decide) (by decide) (by decide)
    | name s p h => exact ex_leaf 10 s [] p (by decide) (by decide) (by decide) (by decide) (by decide) (by decide)
    | list l p h =>
      have hl := len_wtL l
      rw [wtN_mk] at hw
      exact ex_11 [] l p (by omega) (row_p l (fun y hy => ih y (k1 rfl hy) (exsR_mem h y hy)) (by omega))
    | one s y p h1 h2 =>
      obtain ⟨a, b, c, d⟩ := y
      exact ex_12a s p a b c d (ih _ (k1 rfl (by simp)) h2) _ rfl
    | two s y z p h1 h2 h3 =>
      obtain ⟨a, b, c, d⟩ := y
      obtain ⟨a', b', c', d'⟩ := z
      by_cases h : levelS s = 3
      · exact ex_12b s p a b c d (ih _ (k1 rfl (by simp)) h2) a' b' c' d' (ih _ (k1 rfl (by simp)) h3) h _ rfl
      · exact ex_12c s p a b c d (ih _ (k1 rfl (by simp)) h2) a' b' c' d' (ih _ (k1 rfl (by simp)) h3) h _ rfl
    | apply s l q p h1 h2 =>
      have hl := len_wtL l
      have hk := k1 (y := .mk 8 [] l q) rfl (by simp)
      have hk2 : wtN (.mk 8 [] l q) = wtL l + 0 + 1 := wtN_mk _ _ _ _
      exact ex_13 s p 8 [] l q (row_p l (fun y hy => ih y (by have := wtL_mem hy; omega) (exsR_mem h2 y hy)) (by omega)) _ rfl
    | index y z p h1 h2 =>
      obtain ⟨a, b, c, d⟩ := y
      obtain ⟨a', b', c', d'⟩ := z
      exact ex_14 [] p a b c d (ih _ (k1 rfl (by simp)) h1) a' b' c' d' (ih _ (k1 rfl (by simp)) h2) _ rfl
    | pick y z u p h1 h2 h3 =>
      obtain ⟨a, b, c, d⟩ := y
      obtain ⟨a', b', c', d'⟩ := z
      obtain ⟨a2, b2, c2, d2⟩ := u
      exact ex_15 [] p a b c d (ih _ (k1 rfl (by simp)) h1) a' b' c' d' (ih _ (k1 rfl (by simp)) h2) a2 b2 c2 d2 (ih _ (k1 rfl (by simp)) h3) _ rfl
/-- A block's text. -/
def blkT (x : Nd) (pad : List UInt8) : List UInt8 := [32, 123, 10] ++ stsT x.kids (pad ++ [32, 32]) ++ (pad ++ [125])
/-- The printer's statements. -/
def StP (l : List Nd) (pad : List UInt8) : Prop :=
  ∀ (b : Nat) (L : List UInt8) (g : Option Nat) (w : World) (y : Option Addr) (c : Nat), PrSt b L w g → NdRow w (fun k => k < b) l y → L.length + (stsT l pad).length ≤ 2 ^ 46 →
    Calls Tryz.prog 53 #[.pointer (some ⟨b, 0, none⟩), .slice y l.length c, .string ⟨pad.toArray⟩] w (PrQ b L g w (stsT l pad))
/-- The printer's blocks. -/
def BlP (x : Nd) (pad : List UInt8) : Prop :=
  ∀ (b : Nat) (L : List UInt8) (g : Option Nat) (w : World) (v : Value), PrSt b L w g → NdVal w (fun k => k < b) x v → L.length + (blkT x pad).length ≤ 2 ^ 46 →
    Calls Tryz.prog 97 #[.pointer (some ⟨b, 0, none⟩), v, .string ⟨pad.toArray⟩] w (PrQ b L g w (blkT x pad))
set_option maxHeartbeats 4000000 in
set_option maxRecDepth 100000 in
theorem block_p (x : Nd) (pad : List UInt8) (hS : StP x.kids (pad ++ [32, 32])) : BlP x pad := by
  intro b L g w v hP hv hlen
  obtain ⟨k, n, kids, p⟩ := x
  obtain ⟨y, c, rfl, hrow⟩ := hv
  have hA : ∀ o, Below w.heap.size w (w.alloc o) := fun o => (Below.refl _ _).alloc (Nat.le_refl _) _
  have S0 : ExS b g w kids w.heap.size k n y c p L g (w.alloc (ndO k n y kids.length c p)) := ⟨hP.below (hA _), PrOw.of_below (hA _), Box4.new w _ _ _ _, hrow.below (hA _), by have := hP.lt; omega, fun e => by have := hP.buf e.symm; omega⟩
  have hX : blkT (.mk k n kids p) pad = [32, 123, 10] ++ stsT kids (pad ++ [32, 32]) ++ (pad ++ [125]) := rfl
  obtain ⟨X, hX2⟩ : ∃ X, blkT (.mk k n kids p) pad = X := ⟨_, rfl⟩
  rw [hX2] at hX hlen ⊢
  have hlen2 := hlen
  rw [hX] at hlen2
  have hpl : pad.length + 2 ≤ 2 ^ 46 := by simp at hlen2; omega
  have f1 : ∀ W, (Op.stringOp .add ⟨pad.toArray⟩ ⟨#[32, 32]⟩).run Tryz.prog W = .ok (.string ⟨(pad ++ [32, 32]).toArray⟩) W := cat_run pad [32, 32] _ rfl (by simp; omega)
  have f2 : ∀ W, (Op.stringOp .add ⟨pad.toArray⟩ ⟨#[125]⟩).run Tryz.prog W = .ok (.string ⟨(pad ++ [125]).toArray⟩) W := cat_run pad [125] _ rfl (by simp; omega)
  obtain ⟨P1, hP1⟩ : ∃ P1, pad ++ [32, 32] = P1 := ⟨_, rfl⟩
  obtain ⟨P2, hP2⟩ : ∃ P2, pad ++ [125] = P2 := ⟨_, rfl⟩
  have hS' : StP kids (pad ++ [32, 32]) := hS
  rw [hP1] at f1 hS' hlen2 hX
  rw [hP2] at f2 hlen2 hX
  have HS := Lib.hid hS'
  have HS0 := Lib.hid S0
  have HL := Lib.hid hlen2
  have HX := Lib.hid hX
  clear hS hS' hP hrow hA S0 hX hX2 hlen hlen2 hP1 hP2 hpl
  unfold ndO at HS0
  go_enter Tryz.func97, Tryz.ntmps97
  go_wp2_with fail
  refine (write_any b L [32, 123, 10] _ _ HS0.out.st (by have := HL.out; simp at this ⊢; omega)).mono ?_
  rintro e w1 ⟨rfl, g1, hp, ho⟩
  have HS1 := Lib.hid (HS0.out.step hp ho)
  clear hp ho HS0
  obtain ⟨x0, x1, x2, x3, _⟩ := HS1.out.box.facts
  go_wp2_with fail
  refine (HS.out b _ _ _ _ c HS1.out.st HS1.out.row (by have := HL.out; simp at this ⊢; omega)).mono ?_
  rintro e w2 ⟨rfl, g2, hp, ho⟩
  have HS2 := Lib.hid (HS1.out.step hp ho)
  clear hp ho HS1 x0 x1 x2 x3
  go_wp2_with fail
  refine (write_any b _ P2 _ _ HS2.out.st (by have := HL.out; simp at this ⊢; omega)).mono ?_
  rintro e w3 ⟨rfl, g3, hp, ho⟩
  have HS3 := Lib.hid (HS2.out.step hp ho)
  clear hp ho HS2
  go_wp2_with fail
  go_end0
  refine ⟨rfl, g3, ?_, HS3.out.ow⟩
  have := HS3.out.st
  rw [HX.out]
  simpa using this
theorem stsT_app : ∀ (a : List Nd) (x : Nd) (pad : List UInt8), stsT (a ++ [x]) pad = stsT a pad ++ (pad ++ stT x pad ++ [10])
  | [], x, pad => by
    show pad ++ stT x pad ++ [10] ++ [] = [] ++ _
    simp
  | y :: r, x, pad => by
    show pad ++ stT y pad ++ [10] ++ stsT (r ++ [x]) pad = pad ++ stT y pad ++ [10] ++ stsT r pad ++ _
    rw [stsT_app r x pad]
    simp
theorem stsT_le : ∀ (l : List Nd) (i : Nat) (pad : List UInt8), (stsT (l.take i) pad).length ≤ (stsT l pad).length
  | [], _, _ => by simp
  | x :: r, 0, _ => by simp [stsT]
  | x :: r, i + 1, pad => by
    have := stsT_le r i pad
    show (pad ++ stT x pad ++ [10] ++ stsT (r.take i) pad).length ≤ (pad ++ stT x pad ++ [10] ++ stsT r pad).length
    simp only [List.length_append]
    omega
theorem stsT_take {l : List Nd} {i : Nat} {x : Nd} (h : l[i]? = some x) (pad : List UInt8) : stsT (l.take (i + 1)) pad = stsT (l.take i) pad ++ (pad ++ stT x pad ++ [10]) := by
  rw [List.take_add_one, h]
  exact stsT_app _ _ _
end Go.Proofs.YtpbkeamjdolpgaaGreatDoor
