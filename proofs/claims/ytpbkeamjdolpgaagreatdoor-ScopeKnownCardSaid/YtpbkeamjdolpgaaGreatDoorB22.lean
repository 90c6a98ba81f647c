/- The walk of the printer's statements. -/
import Derived.Test.YtpbkeamjdolpgaaGreatDoorB21
import Derived.StillTailTactics
namespace Go.Proofs.YtpbkeamjdolpgaaGreatDoor
open Go.RowKit Go.Lib Go.Shelf Go.Sort

theorem stC_or {K : Int} {n : List UInt8} {kids : List Nd} {p : Int} (h : StC (.mk K n kids p)) :
    (K = 1 ∧ ∃ k1 n1 m1 p1, kids = [.mk k1 n1 m1 p1] ∧ exR (.mk k1 n1 m1 p1) = true) ∨
    (K = 2 ∧ ∃ k1 n1 m1 p1 k2 n2 m2 p2, kids = [.mk k1 n1 m1 p1, .mk k2 n2 m2 p2] ∧ parsR m1 = true ∧ stsR m2 = true) ∨
    (K = 3 ∧ ∃ k1 n1 m1 p1 k2 n2 m2 p2, kids = [.mk k1 n1 m1 p1, .mk k2 n2 m2 p2] ∧ parsR m1 = true ∧ exR (.mk k2 n2 m2 p2) = true) ∨
    (K = 5 ∧ ∃ k1 n1 m1 p1 k2 n2 m2 p2, kids = [.mk k1 n1 m1 p1, .mk k2 n2 m2 p2] ∧ exR (.mk k1 n1 m1 p1) = true ∧ stsR m2 = true) ∨
    (K = 6 ∧ ∃ k1 n1 m1 p1 k2 n2 m2 p2, kids = [.mk k1 n1 m1 p1, .mk k2 n2 m2 p2] ∧ exR (.mk k1 n1 m1 p1) = true ∧ stsR m2 = true) ∨
    (K = 6 ∧ ∃ k1 n1 m1 p1 k2 n2 m2 p2 k3 n3 m3 p3, kids = [.mk k1 n1 m1 p1, .mk k2 n2 m2 p2, .mk k3 n3 m3 p3] ∧ exR (.mk k1 n1 m1 p1) = true ∧ stsR m2 = true ∧ stsR m3 = true) ∨
    (K = 7 ∧ ∃ k1 n1 m1 p1, kids = [.mk k1 n1 m1 p1] ∧ exsR m1 = true) ∨
    (K = 7 ∧ ∃ k1 n1 m1 p1 k2 n2 m2 p2, kids = [.mk k1 n1 m1 p1, .mk k2 n2 m2 p2] ∧ exsR m1 = true ∧ stsR m2 = true) := by
  cases h with
  | set s x p h1 h2 =>
    obtain ⟨a, b, c, d⟩ := x
    exact .inl ⟨rfl, _, _, _, _, rfl, h2⟩
  | module s l q b r p h1 h2 h3 =>
    exact .inr (.inl ⟨rfl, _, _, _, _, _, _, _, _, rfl, h2, h3⟩)
  | function s l q x p h1 h2 h3 =>
    obtain ⟨a, b, c, d⟩ := x
    exact .inr (.inr (.inl ⟨rfl, _, _, _, _, _, _, _, _, rfl, h2, h3⟩))
  | loop s x b r p h1 h2 h3 =>
    obtain ⟨a, b, c, d⟩ := x
    exact .inr (.inr (.inr (.inl ⟨rfl, _, _, _, _, _, _, _, _, rfl, h2, h3⟩)))
  | cond x b r p h1 h2 =>
    obtain ⟨a, b, c, d⟩ := x
    exact .inr (.inr (.inr (.inr (.inl ⟨rfl, _, _, _, _, _, _, _, _, rfl, h1, h2⟩))))
  | cond2 x b r b' r' p h1 h2 h3 =>
    obtain ⟨a, b, c, d⟩ := x
    exact .inr (.inr (.inr (.inr (.inr (.inl ⟨rfl, _, _, _, _, _, _, _, _, _, _, _, _, rfl, h1, h2, h3⟩)))))
  | call s l q p h1 h2 =>
    exact .inr (.inr (.inr (.inr (.inr (.inr (.inl ⟨rfl, _, _, _, _, rfl, h2⟩))))))
  | callB s l q b r p h1 h2 h3 =>
    exact .inr (.inr (.inr (.inr (.inr (.inr (.inr (⟨rfl, _, _, _, _, _, _, _, _, rfl, h2, h3⟩)))))))
set_option maxHeartbeats 8000000 in
set_option maxRecDepth 100000 in
theorem stmts_p (l : List Nd) (pad : List UInt8) (hR : stsR l = true) (hw : wtL l < 2 ^ 40) (hB : ∀ x, wtN x < wtL l → stsR x.kids = true → BlP x pad) : StP l pad := by
  intro b L g w y c hP hrow hlen
  obtain ⟨n0, hn⟩ : ∃ n, l.length = n := ⟨_, rfl⟩
  have hll : n0 < 2 ^ 62 := by have := len_wtL l; omega
  have HN := Lib.hid hn
  have HB := Lib.hid hB
  have HR := Lib.hid hR
  have HW := Lib.hid hw
  have HLEN := Lib.hid hlen
  have HP := Lib.hid hP
  have HROW := Lib.hid hrow
  rw [hn]
  obtain ⟨X, hX⟩ : ∃ X, stsT l pad = X := ⟨_, rfl⟩
  rw [hX]
  have HX := Lib.hid hX
  clear hB hR hw hlen hP hrow hn hX
  go_enter Tryz.func53, Tryz.ntmps53
  go_wp2_with fail
  go_loopg [11] n0 (fun gf v wx => ∃ (i : Nat) (gx : Option Nat), v = .int .i64 i ∧ i + gf = n0 ∧ Hid (PrSt b (L ++ stsT (l.take i) pad) wx gx ∧ PrOw b g gx w wx ∧ NdRow wx (fun k => k < b) l y))
  case atStart => exact ⟨0, g, rfl, by omega, by rw [show stsT (l.take 0) pad = [] from rfl, List.append_nil]; exact HP.out, PrOw.refl _ _ _, HROW.out⟩
  case round =>
    obtain ⟨i, gx, rfl, hi, hS⟩ := hrel
    by_cases hlt : i < n0
    · obtain ⟨x, hx⟩ : ∃ x, l[i]? = some x := ⟨l[i]'(by have := HN.out; omega), List.getElem?_eq_getElem _⟩
      have hmem := List.mem_of_getElem? hx
      have hst := stsR_mem HR.out x hmem
      have HWX := Lib.hid (wtL_mem hmem)
      have HJT := Lib.hid (stsT_take hx pad)
      have HJL := Lib.hid (stsT_le l (i + 1) pad)
      have Qi1 : IntKind.i64.wrap ((i : Int) + 1) = (i : Int) + 1 := IntWalk.i64_in _ (by omega)
      have hlt' : (i : Int) < (n0 : Int) := by omega
      obtain ⟨B0, o, rfl, hat⟩ := hS.out.2.2.at_ hx
      obtain ⟨K, n, kids, p⟩ := x
      obtain ⟨hok, e0, e1, e3, y, cv, e2, hk⟩ := hat
      generalize cv.val = c' at e2
      clear cv
      have hA : ∀ o, Below wr.heap.size wr (wr.alloc o) := fun o => (Below.refl _ _).alloc (Nat.le_refl _) _
      have HS0 : Hid (ExS b gx wr kids wr.heap.size K n y c' p (L ++ stsT (l.take i) pad) gx (wr.alloc (.cells #[.int .i64 K, .string ⟨n.toArray⟩, .slice y kids.length c', .int .i64 p] 53))) := ⟨hS.out.1.below (hA _), PrOw.of_below (hA _), Box4.new wr _ _ _ _, hk.below (hA _), by have := hS.out.1.lt; omega, fun e => by have := hS.out.1.buf e.symm; omega⟩
      have HST := stC_or (stC_of hst)
      clear hk hok hmem hst hx hA
      rcases HST with ⟨rfl, k1, n1, m1, p1, hks, h2⟩ |
        ⟨rfl, k1, n1, m1, p1, k2, n2, m2, p2, hks, h2, h3⟩ |
        ⟨rfl, k1, n1, m1, p1, k2, n2, m2, p2, hks, h2, h3⟩ |
        ⟨rfl, k1, n1, m1, p1, k2, n2, m2, p2, hks, h2, h3⟩ |
        ⟨rfl, k1, n1, m1, p1, k2, n2, m2, p2, hks, h1, h2⟩ |
        ⟨rfl, k1, n1, m1, p1, k2, n2, m2, p2, k3, n3, m3, p3, hks, h1, h2, h3⟩ |
        ⟨rfl, k1, n1, m1, p1, hks, h2⟩ |
        ⟨rfl, k1, n1, m1, p1, k2, n2, m2, p2, hks, h2, h3⟩
      · have hm : kids.length = 1 := by rw [hks]; rfl
        have hg1 : Hid (kids[0]? = some (.mk k1 n1 m1 p1)) := by
          show _ = _
          rw [hks]; rfl
        have HM := Lib.hid hm
        have HKS := Lib.hid hks
        have HWK : Hid (wtL kids + n.length + 1 ≤ wtL l) := by
          have := HWX.out
          rw [wtN_mk] at this
          exact this
        obtain ⟨kb, ko, rfl, _⟩ := HS0.out.row.at_ hg1.out
        rw [hm] at HS0 e2
        have E1 : Hid (ExP (.mk k1 n1 m1 p1)) := exp_all (2 ^ 40) _ (by have := HWK.out; rw [hks] at this; simp [wtL, wtN_mk] at this; have := HW.out; rw [wtN_mk]; omega) (by have := HWK.out; rw [hks] at this; simp [wtL, wtN_mk] at this; have := HW.out; rw [wtN_mk]; omega) h2
        obtain ⟨A1, hA1⟩ : ∃ c : List UInt8, c = n ++ [32, 61, 32] := ⟨_, rfl⟩
        have lA1 : A1.length < 2 ^ 41 + 20 := by
          have hnb := HWK.out
          have hww := HW.out
          rw [hA1]
          simp
          omega
        have fA1 : ∀ W, (Op.stringOp .add ⟨n.toArray⟩ ⟨#[32, 61, 32]⟩).run Tryz.prog W = .ok (.string ⟨A1.toArray⟩) W := cat_run n [32, 61, 32] A1 hA1 (by have hnb := HWK.out; have hww := HW.out; simp; omega)
        have HA1 := Lib.hid hA1
        clear hA1 lA1
        clear hks hm
        have HXT : Hid (stT (.mk 1 n kids p) pad = A1 ++ exT (.mk k1 n1 m1 p1) 0 ++ [59]) := by
          show _ = _
          rw [HKS.out]
          rw [HA1.out]
          simp [stT, ex0At, ex0s]
        have HL2 : Hid ((L ++ stsT (l.take i) pad).length + (pad ++ (A1 ++ exT (.mk k1 n1 m1 p1) 0 ++ [59]) ++ [10]).length ≤ 2 ^ 46) := by
          show _ ≤ _
          have h1 := HLEN.out
          have h2 := HJL.out
          rw [HJT.out, HXT.out] at h2
          simp at h1 h2 ⊢
          omega
        go_wp2_with fail
        refine (write_any b (L ++ stsT (l.take i) pad) pad _ _ HS0.out.st (by have := HL2.out; simp at this ⊢; omega)).mono ?_
        rintro e v1 ⟨rfl, g1, hp, ho⟩
        have HV1 := Lib.hid (HS0.out.step hp ho)
        clear hp ho HS0
        obtain ⟨x0, x1, x2, x3, _⟩ := HV1.out.box.facts
        rw [HM.out] at x2
        go_wp2_with fail
        have HD30 := Lib.hid (HV1.out.drew)
        clear HV1
        go_still_tail 6, (by kernel_rfl)
        change wpList _ _ _ _ _ (World.drew v1)
        generalize World.drew v1 = d30 at *
        clear x0 x1 x2 x3
        go_wp2_with fail
        refine (write_any b ((L ++ stsT (l.take i) pad) ++ pad) A1 _ _ HD30.out.st (by have := HL2.out; simp at this ⊢; omega)).mono ?_
        rintro e v10 ⟨rfl, g10, hp, ho⟩
        have HV10 := Lib.hid (HD30.out.step hp ho)
        clear hp ho HD30
        obtain ⟨_, z0, z1, z3, ya, ca, z2, hra⟩ := HV10.out.row.get hg1.out
        simp only [Nat.zero_mul, Nat.add_zero] at z0 z1 z2 z3
        have HRA := Lib.hid hra
        clear hra
        go_wp2_with fail
        refine (E1.out b (((L ++ stsT (l.take i) pad) ++ pad) ++ A1) _ _ _ (0) HV10.out.st ⟨ya, ca, rfl, HRA.out⟩ (by omega) (by have := HL2.out; simp at this ⊢; omega)).mono ?_
        clear z0 z1 z2 z3 HRA
        rintro e v11 ⟨rfl, g11, hp, ho⟩
        have HV11 := Lib.hid (HV10.out.step hp ho)
        clear hp ho HV10
        go_wp2_with fail
        refine (write_any b ((((L ++ stsT (l.take i) pad) ++ pad) ++ A1) ++ exT (.mk k1 n1 m1 p1) 0) [59] _ _ HV11.out.st (by have := HL2.out; simp at this ⊢; omega)).mono ?_
        rintro e v12 ⟨rfl, g12, hp, ho⟩
        have HV12 := Lib.hid (HV11.out.step hp ho)
        clear hp ho HV11
        go_wp2_with fail
        refine (write_any b (((((L ++ stsT (l.take i) pad) ++ pad) ++ A1) ++ exT (.mk k1 n1 m1 p1) 0) ++ [59]) [10] _ _ HV12.out.st (by have := HL2.out; simp at this ⊢; omega)).mono ?_
        rintro e v60 ⟨rfl, g60, hp, ho⟩
        have HV60 := Lib.hid (HV12.out.step hp ho)
        clear hp ho HV12
        go_wp2_with fail
        go_roundg (gk - 1)
        case measure => omega
        case rel =>
          refine ⟨i + 1, g60, rfl, by omega, ?_, hS.out.2.1.trans HV60.out.ow, hS.out.2.2.pr HV60.out.ow fun _ hk => (hS.out.1.buf hk).1⟩
          have := HV60.out.st
          rw [HJT.out, HXT.out]
          simpa using this
      · have hm : kids.length = 2 := by rw [hks]; rfl
        have hg1 : Hid (kids[0]? = some (.mk k1 n1 m1 p1)) := by
          show _ = _
          rw [hks]; rfl
        have hg2 : Hid (kids[1]? = some (.mk k2 n2 m2 p2)) := by
          show _ = _
          rw [hks]; rfl
        have HM := Lib.hid hm
        have HKS := Lib.hid hks
        have HWK : Hid (wtL kids + n.length + 1 ≤ wtL l) := by
          have := HWX.out
          rw [wtN_mk] at this
          exact this
        obtain ⟨kb, ko, rfl, _⟩ := HS0.out.row.at_ hg1.out
        rw [hm] at HS0 e2
        have R : Hid (RoP m1) := row_p m1 (fun z hz => exp_all (2 ^ 40) z (by have := HWK.out; rw [hks] at this; simp [wtL, wtN_mk] at this; have := HW.out; have := wtL_mem hz; omega) (by have := HWK.out; rw [hks] at this; simp [wtL, wtN_mk] at this; have := HW.out; have := wtL_mem hz; omega) ((fun z hz => (parsR_mem h2 z hz).2) z hz)) (by have := HWK.out; rw [hks] at this; simp [wtL, wtN_mk] at this; have := HW.out; have := len_wtL m1; omega)
        have B2 : Hid (BlP (.mk k2 n2 m2 p2) pad) := HB.out _ (by have := HWK.out; rw [hks] at this; simp [wtL, wtN_mk] at this; rw [wtN_mk]; omega) h3
        obtain ⟨A1, hA1⟩ : ∃ c : List UInt8, c = [109, 111, 100, 117, 108, 101, 32] ++ n := ⟨_, rfl⟩
        have lA1 : A1.length < 2 ^ 41 + 20 := by
          have hnb := HWK.out
          have hww := HW.out
          rw [hA1]
          simp
          omega
        have fA1 : ∀ W, (Op.stringOp .add ⟨#[109, 111, 100, 117, 108, 101, 32]⟩ ⟨n.toArray⟩).run Tryz.prog W = .ok (.string ⟨A1.toArray⟩) W := cat_run [109, 111, 100, 117, 108, 101, 32] n A1 hA1 (by have hnb := HWK.out; have hww := HW.out; simp; omega)
        obtain ⟨A2, hA2⟩ : ∃ c : List UInt8, c = A1 ++ [40] := ⟨_, rfl⟩
        have lA2 : A2.length < 2 ^ 41 + 40 := by
          have hnb := HWK.out
          have hww := HW.out
          rw [hA2]
          simp
          omega
        have fA2 : ∀ W, (Op.stringOp .add ⟨A1.toArray⟩ ⟨#[40]⟩).run Tryz.prog W = .ok (.string ⟨A2.toArray⟩) W := cat_run A1 [40] A2 hA2 (by have hnb := HWK.out; have hww := HW.out; simp; omega)
        have HA1 := Lib.hid hA1
        have HA2 := Lib.hid hA2
        clear hA1 hA2 lA1 lA2
        clear hks hm
        have HXT : Hid (stT (.mk 2 n kids p) pad = A2 ++ joinC (ex0s m1) ++ [41] ++ blkT (.mk k2 n2 m2 p2) pad) := by
          show _ = _
          rw [HKS.out]
          rw [HA2.out]; rw [HA1.out]
          simp [stT, rowT, grT, blksT, blkT, Nd.kids, wModule]
        have HL2 : Hid ((L ++ stsT (l.take i) pad).length + (pad ++ (A2 ++ joinC (ex0s m1) ++ [41] ++ blkT (.mk k2 n2 m2 p2) pad) ++ [10]).length ≤ 2 ^ 46) := by
          show _ ≤ _
          have h1 := HLEN.out
          have h2 := HJL.out
          rw [HJT.out, HXT.out] at h2
          simp at h1 h2 ⊢
          omega
        go_wp2_with fail
        refine (write_any b (L ++ stsT (l.take i) pad) pad _ _ HS0.out.st (by have := HL2.out; simp at this ⊢; omega)).mono ?_
        rintro e v1 ⟨rfl, g1, hp, ho⟩
        have HV1 := Lib.hid (HS0.out.step hp ho)
        clear hp ho HS0
        obtain ⟨x0, x1, x2, x3, _⟩ := HV1.out.box.facts
        rw [HM.out] at x2
        obtain ⟨_, z0, z1, z3, ya, ca, z2, hra⟩ := HV1.out.row.get hg1.out
        simp only [Nat.zero_mul, Nat.add_zero] at z0 z1 z2 z3
        have HRA := Lib.hid hra
        clear hra
        go_wp2_with fail
        have HD30 := Lib.hid (HV1.out.drew)
        clear HV1
        go_still_tail 9, (by kernel_rfl)
        have HRB := Lib.hid (HRA.out.below (Below.drew (Below.refl _ _)))
        change wpList _ _ _ _ _ (World.drew v1)
        generalize World.drew v1 = d30 at *
        clear HRA x0 x1 x2 x3
        go_wp2_with fail
        refine (R.out b ((L ++ stsT (l.take i) pad) ++ pad) A2 [41] _ _ ya ca HD30.out.st HRB.out (by have := HL2.out; simp at this ⊢; omega)).mono ?_
        rintro e v10 ⟨rfl, g10, hp, ho⟩
        have HV10 := Lib.hid (HD30.out.step hp ho)
        clear hp ho HD30
        obtain ⟨_, z0, z1, z3, ya, ca, z2, hra⟩ := HV10.out.row.get hg2.out
        simp only [Nat.one_mul, Nat.reduceAdd, Nat.add_assoc] at z0 z1 z2 z3
        have HRA := Lib.hid hra
        clear hra
        go_wp2_with fail
        refine (B2.out b (((L ++ stsT (l.take i) pad) ++ pad) ++ (A2 ++ joinC (ex0s m1) ++ [41])) _ _ _ HV10.out.st ⟨ya, ca, rfl, HRA.out⟩ (by have := HL2.out; simp at this ⊢; omega)).mono ?_
        clear z0 z1 z2 z3 HRA
        rintro e v11 ⟨rfl, g11, hp, ho⟩
        have HV11 := Lib.hid (HV10.out.step hp ho)
        clear hp ho HV10
        go_wp2_with fail
        refine (write_any b ((((L ++ stsT (l.take i) pad) ++ pad) ++ (A2 ++ joinC (ex0s m1) ++ [41])) ++ blkT (.mk k2 n2 m2 p2) pad) [10] _ _ HV11.out.st (by have := HL2.out; simp at this ⊢; omega)).mono ?_
        rintro e v60 ⟨rfl, g60, hp, ho⟩
        have HV60 := Lib.hid (HV11.out.step hp ho)
        clear hp ho HV11
        go_wp2_with fail
        go_roundg (gk - 1)
        case measure => omega
        case rel =>
          refine ⟨i + 1, g60, rfl, by omega, ?_, hS.out.2.1.trans HV60.out.ow, hS.out.2.2.pr HV60.out.ow fun _ hk => (hS.out.1.buf hk).1⟩
          have := HV60.out.st
          rw [HJT.out, HXT.out]
          simpa using this
      · have hm : kids.length = 2 := by rw [hks]; rfl
        have hg1 : Hid (kids[0]? = some (.mk k1 n1 m1 p1)) := by
          show _ = _
          rw [hks]; rfl
        have hg2 : Hid (kids[1]? = some (.mk k2 n2 m2 p2)) := by
          show _ = _
          rw [hks]; rfl
        have HM := Lib.hid hm
        have HKS := Lib.hid hks
        have HWK : Hid (wtL kids + n.length + 1 ≤ wtL l) := by
          have := HWX.out
          rw [wtN_mk] at this
          exact this
        obtain ⟨kb, ko, rfl, _⟩ := HS0.out.row.at_ hg1.out
        rw [hm] at HS0 e2
        have R : Hid (RoP m1) := row_p m1 (fun z hz => exp_all (2 ^ 40) z (by have := HWK.out; rw [hks] at this; simp [wtL, wtN_mk] at this; have := HW.out; have := wtL_mem hz; omega) (by have := HWK.out; rw [hks] at this; simp [wtL, wtN_mk] at this; have := HW.out; have := wtL_mem hz; omega) ((fun z hz => (parsR_mem h2 z hz).2) z hz)) (by have := HWK.out; rw [hks] at this; simp [wtL, wtN_mk] at this; have := HW.out; have := len_wtL m1; omega)
        have E2 : Hid (ExP (.mk k2 n2 m2 p2)) := exp_all (2 ^ 40) _ (by have := HWK.out; rw [hks] at this; simp [wtL, wtN_mk] at this; have := HW.out; rw [wtN_mk]; omega) (by have := HWK.out; rw [hks] at this; simp [wtL, wtN_mk] at this; have := HW.out; rw [wtN_mk]; omega) h3
        obtain ⟨A1, hA1⟩ : ∃ c : List UInt8, c = [102, 117, 110, 99, 116, 105, 111, 110, 32] ++ n := ⟨_, rfl⟩
        have lA1 : A1.length < 2 ^ 41 + 20 := by
          have hnb := HWK.out
          have hww := HW.out
          rw [hA1]
          simp
          omega
        have fA1 : ∀ W, (Op.stringOp .add ⟨#[102, 117, 110, 99, 116, 105, 111, 110, 32]⟩ ⟨n.toArray⟩).run Tryz.prog W = .ok (.string ⟨A1.toArray⟩) W := cat_run [102, 117, 110, 99, 116, 105, 111, 110, 32] n A1 hA1 (by have hnb := HWK.out; have hww := HW.out; simp; omega)
        obtain ⟨A2, hA2⟩ : ∃ c : List UInt8, c = A1 ++ [40] := ⟨_, rfl⟩
        have lA2 : A2.length < 2 ^ 41 + 40 := by
          have hnb := HWK.out
          have hww := HW.out
          rw [hA2]
          simp
          omega
        have fA2 : ∀ W, (Op.stringOp .add ⟨A1.toArray⟩ ⟨#[40]⟩).run Tryz.prog W = .ok (.string ⟨A2.toArray⟩) W := cat_run A1 [40] A2 hA2 (by have hnb := HWK.out; have hww := HW.out; simp; omega)
        have HA1 := Lib.hid hA1
        have HA2 := Lib.hid hA2
        clear hA1 hA2 lA1 lA2
        clear hks hm
        have HXT : Hid (stT (.mk 3 n kids p) pad = A2 ++ joinC (ex0s m1) ++ [41, 32, 61, 32] ++ exT (.mk k2 n2 m2 p2) 0 ++ [59]) := by
          show _ = _
          rw [HKS.out]
          rw [HA2.out]; rw [HA1.out]
          simp [stT, rowT, grT, ex0At, ex0s, wFunction]
        have HL2 : Hid ((L ++ stsT (l.take i) pad).length + (pad ++ (A2 ++ joinC (ex0s m1) ++ [41, 32, 61, 32] ++ exT (.mk k2 n2 m2 p2) 0 ++ [59]) ++ [10]).length ≤ 2 ^ 46) := by
          show _ ≤ _
          have h1 := HLEN.out
          have h2 := HJL.out
          rw [HJT.out, HXT.out] at h2
          simp at h1 h2 ⊢
          omega
        go_wp2_with fail
        refine (write_any b (L ++ stsT (l.take i) pad) pad _ _ HS0.out.st (by have := HL2.out; simp at this ⊢; omega)).mono ?_
        rintro e v1 ⟨rfl, g1, hp, ho⟩
        have HV1 := Lib.hid (HS0.out.step hp ho)
        clear hp ho HS0
        obtain ⟨x0, x1, x2, x3, _⟩ := HV1.out.box.facts
        rw [HM.out] at x2
        obtain ⟨_, z0, z1, z3, ya, ca, z2, hra⟩ := HV1.out.row.get hg1.out
        simp only [Nat.zero_mul, Nat.add_zero] at z0 z1 z2 z3
        have HRA := Lib.hid hra
        clear hra
        go_wp2_with fail
        have HD30 := Lib.hid (HV1.out.drew)
        clear HV1
        go_still_tail 9, (by kernel_rfl)
        have HRB := Lib.hid (HRA.out.below (Below.drew (Below.refl _ _)))
        change wpList _ _ _ _ _ (World.drew v1)
        generalize World.drew v1 = d30 at *
        clear HRA x0 x1 x2 x3
        go_wp2_with fail
        refine (R.out b ((L ++ stsT (l.take i) pad) ++ pad) A2 [41, 32, 61, 32] _ _ ya ca HD30.out.st HRB.out (by have := HL2.out; simp at this ⊢; omega)).mono ?_
        rintro e v10 ⟨rfl, g10, hp, ho⟩
        have HV10 := Lib.hid (HD30.out.step hp ho)
        clear hp ho HD30
        obtain ⟨_, z0, z1, z3, ya, ca, z2, hra⟩ := HV10.out.row.get hg2.out
        simp only [Nat.one_mul, Nat.reduceAdd, Nat.add_assoc] at z0 z1 z2 z3
        have HRA := Lib.hid hra
        clear hra
        go_wp2_with fail
        refine (E2.out b (((L ++ stsT (l.take i) pad) ++ pad) ++ (A2 ++ joinC (ex0s m1) ++ [41, 32, 61, 32])) _ _ _ (0) HV10.out.st ⟨ya, ca, rfl, HRA.out⟩ (by omega) (by have := HL2.out; simp at this ⊢; omega)).mono ?_
        clear z0 z1 z2 z3 HRA
        rintro e v11 ⟨rfl, g11, hp, ho⟩
        have HV11 := Lib.hid (HV10.out.step hp ho)
        clear hp ho HV10
        go_wp2_with fail
        refine (write_any b ((((L ++ stsT (l.take i) pad) ++ pad) ++ (A2 ++ joinC (ex0s m1) ++ [41, 32, 61, 32])) ++ exT (.mk k2 n2 m2 p2) 0) [59] _ _ HV11.out.st (by have := HL2.out; simp at this ⊢; omega)).mono ?_
        rintro e v12 ⟨rfl, g12, hp, ho⟩
        have HV12 := Lib.hid (HV11.out.step hp ho)
        clear hp ho HV11
        go_wp2_with fail
        refine (write_any b (((((L ++ stsT (l.take i) pad) ++ pad) ++ (A2 ++ joinC (ex0s m1) ++ [41, 32, 61, 32])) ++ exT (.mk k2 n2 m2 p2) 0) ++ [59]) [10] _ _ HV12.out.st (by have := HL2.out; simp at this ⊢; omega)).mono ?_
        rintro e v60 ⟨rfl, g60, hp, ho⟩
        have HV60 := Lib.hid (HV12.out.step hp ho)
        clear hp ho HV12
        go_wp2_with fail
        go_roundg (gk - 1)
        case measure => omega
        case rel =>
          refine ⟨i + 1, g60, rfl, by omega, ?_, hS.out.2.1.trans HV60.out.ow, hS.out.2.2.pr HV60.out.ow fun _ hk => (hS.out.1.buf hk).1⟩
          have := HV60.out.st
          rw [HJT.out, HXT.out]
          simpa using this
      · have hm : kids.length = 2 := by rw [hks]; rfl
        have hg1 : Hid (kids[0]? = some (.mk k1 n1 m1 p1)) := by
          show _ = _
          rw [hks]; rfl
        have hg2 : Hid (kids[1]? = some (.mk k2 n2 m2 p2)) := by
          show _ = _
          rw [hks]; rfl
        have HM := Lib.hid hm
        have HKS := Lib.hid hks
        have HWK : Hid (wtL kids + n.length + 1 ≤ wtL l) := by
          have := HWX.out
          rw [wtN_mk] at this
          exact this
        obtain ⟨kb, ko, rfl, _⟩ := HS0.out.row.at_ hg1.out
        rw [hm] at HS0 e2
        have E1 : Hid (ExP (.mk k1 n1 m1 p1)) := exp_all (2 ^ 40) _ (by have := HWK.out; rw [hks] at this; simp [wtL, wtN_mk] at this; have := HW.out; rw [wtN_mk]; omega) (by have := HWK.out; rw [hks] at this; simp [wtL, wtN_mk] at this; have := HW.out; rw [wtN_mk]; omega) h2
        have B2 : Hid (BlP (.mk k2 n2 m2 p2) pad) := HB.out _ (by have := HWK.out; rw [hks] at this; simp [wtL, wtN_mk] at this; rw [wtN_mk]; omega) h3
        obtain ⟨A1, hA1⟩ : ∃ c : List UInt8, c = [102, 111, 114, 32, 40] ++ n := ⟨_, rfl⟩
        have lA1 : A1.length < 2 ^ 41 + 20 := by
          have hnb := HWK.out
          have hww := HW.out
          rw [hA1]
          simp
          omega
        have fA1 : ∀ W, (Op.stringOp .add ⟨#[102, 111, 114, 32, 40]⟩ ⟨n.toArray⟩).run Tryz.prog W = .ok (.string ⟨A1.toArray⟩) W := cat_run [102, 111, 114, 32, 40] n A1 hA1 (by have hnb := HWK.out; have hww := HW.out; simp; omega)
        obtain ⟨A2, hA2⟩ : ∃ c : List UInt8, c = A1 ++ [32, 61, 32] := ⟨_, rfl⟩
        have lA2 : A2.length < 2 ^ 41 + 40 := by
          have hnb := HWK.out
          have hww := HW.out
          rw [hA2]
          simp
          omega
        have fA2 : ∀ W, (Op.stringOp .add ⟨A1.toArray⟩ ⟨#[32, 61, 32]⟩).run Tryz.prog W = .ok (.string ⟨A2.toArray⟩) W := cat_run A1 [32, 61, 32] A2 hA2 (by have hnb := HWK.out; have hww := HW.out; simp; omega)
        have HA1 := Lib.hid hA1
        have HA2 := Lib.hid hA2
        clear hA1 hA2 lA1 lA2
        clear hks hm
        have HXT : Hid (stT (.mk 5 n kids p) pad = A2 ++ exT (.mk k1 n1 m1 p1) 0 ++ [41] ++ blkT (.mk k2 n2 m2 p2) pad) := by
          show _ = _
          rw [HKS.out]
          rw [HA2.out]; rw [HA1.out]
          simp [stT, ex0At, ex0s, blksT, blkT, Nd.kids, wFor]
        have HL2 : Hid ((L ++ stsT (l.take i) pad).length + (pad ++ (A2 ++ exT (.mk k1 n1 m1 p1) 0 ++ [41] ++ blkT (.mk k2 n2 m2 p2) pad) ++ [10]).length ≤ 2 ^ 46) := by
          show _ ≤ _
          have h1 := HLEN.out
          have h2 := HJL.out
          rw [HJT.out, HXT.out] at h2
          simp at h1 h2 ⊢
          omega
        go_wp2_with fail
        refine (write_any b (L ++ stsT (l.take i) pad) pad _ _ HS0.out.st (by have := HL2.out; simp at this ⊢; omega)).mono ?_
        rintro e v1 ⟨rfl, g1, hp, ho⟩
        have HV1 := Lib.hid (HS0.out.step hp ho)
        clear hp ho HS0
        obtain ⟨x0, x1, x2, x3, _⟩ := HV1.out.box.facts
        rw [HM.out] at x2
        go_wp2_with fail
        have HD30 := Lib.hid (HV1.out.drew)
        clear HV1
        go_still_tail 7, (by kernel_rfl)
        change wpList _ _ _ _ _ (World.drew v1)
        generalize World.drew v1 = d30 at *
        clear x0 x1 x2 x3
        go_wp2_with fail
        refine (write_any b ((L ++ stsT (l.take i) pad) ++ pad) A2 _ _ HD30.out.st (by have := HL2.out; simp at this ⊢; omega)).mono ?_
        rintro e v10 ⟨rfl, g10, hp, ho⟩
        have HV10 := Lib.hid (HD30.out.step hp ho)
        clear hp ho HD30
        obtain ⟨_, z0, z1, z3, ya, ca, z2, hra⟩ := HV10.out.row.get hg1.out
        simp only [Nat.zero_mul, Nat.add_zero] at z0 z1 z2 z3
        have HRA := Lib.hid hra
        clear hra
        go_wp2_with fail
        refine (E1.out b (((L ++ stsT (l.take i) pad) ++ pad) ++ A2) _ _ _ (0) HV10.out.st ⟨ya, ca, rfl, HRA.out⟩ (by omega) (by have := HL2.out; simp at this ⊢; omega)).mono ?_
        clear z0 z1 z2 z3 HRA
        rintro e v11 ⟨rfl, g11, hp, ho⟩
        have HV11 := Lib.hid (HV10.out.step hp ho)
        clear hp ho HV10
        go_wp2_with fail
        refine (write_any b ((((L ++ stsT (l.take i) pad) ++ pad) ++ A2) ++ exT (.mk k1 n1 m1 p1) 0) [41] _ _ HV11.out.st (by have := HL2.out; simp at this ⊢; omega)).mono ?_
        rintro e v12 ⟨rfl, g12, hp, ho⟩
        have HV12 := Lib.hid (HV11.out.step hp ho)
        clear hp ho HV11
        obtain ⟨_, z0, z1, z3, ya, ca, z2, hra⟩ := HV12.out.row.get hg2.out
        simp only [Nat.one_mul, Nat.reduceAdd, Nat.add_assoc] at z0 z1 z2 z3
        have HRA := Lib.hid hra
        clear hra
        go_wp2_with fail
        refine (B2.out b (((((L ++ stsT (l.take i) pad) ++ pad) ++ A2) ++ exT (.mk k1 n1 m1 p1) 0) ++ [41]) _ _ _ HV12.out.st ⟨ya, ca, rfl, HRA.out⟩ (by have := HL2.out; simp at this ⊢; omega)).mono ?_
        clear z0 z1 z2 z3 HRA
        rintro e v13 ⟨rfl, g13, hp, ho⟩
        have HV13 := Lib.hid (HV12.out.step hp ho)
        clear hp ho HV12
        go_wp2_with fail
        refine (write_any b ((((((L ++ stsT (l.take i) pad) ++ pad) ++ A2) ++ exT (.mk k1 n1 m1 p1) 0) ++ [41]) ++ blkT (.mk k2 n2 m2 p2) pad) [10] _ _ HV13.out.st (by have := HL2.out; simp at this ⊢; omega)).mono ?_
        rintro e v60 ⟨rfl, g60, hp, ho⟩
        have HV60 := Lib.hid (HV13.out.step hp ho)
        clear hp ho HV13
        go_wp2_with fail
        go_roundg (gk - 1)
        case measure => omega
        case rel =>
          refine ⟨i + 1, g60, rfl, by omega, ?_, hS.out.2.1.trans HV60.out.ow, hS.out.2.2.pr HV60.out.ow fun _ hk => (hS.out.1.buf hk).1⟩
          have := HV60.out.st
          rw [HJT.out, HXT.out]
          simpa using this
      · have hm : kids.length = 2 := by rw [hks]; rfl
        have hg1 : Hid (kids[0]? = some (.mk k1 n1 m1 p1)) := by
          show _ = _
          rw [hks]; rfl
        have hg2 : Hid (kids[1]? = some (.mk k2 n2 m2 p2)) := by
          show _ = _
          rw [hks]; rfl
        have HM := Lib.hid hm
        have HKS := Lib.hid hks
        have HWK : Hid (wtL kids + n.length + 1 ≤ wtL l) := by
          have := HWX.out
          rw [wtN_mk] at this
          exact this
        obtain ⟨kb, ko, rfl, _⟩ := HS0.out.row.at_ hg1.out
        rw [hm] at HS0 e2
        have E1 : Hid (ExP (.mk k1 n1 m1 p1)) := exp_all (2 ^ 40) _ (by have := HWK.out; rw [hks] at this; simp [wtL, wtN_mk] at this; have := HW.out; rw [wtN_mk]; omega) (by have := HWK.out; rw [hks] at this; simp [wtL, wtN_mk] at this; have := HW.out; rw [wtN_mk]; omega) h1
        have B2 : Hid (BlP (.mk k2 n2 m2 p2) pad) := HB.out _ (by have := HWK.out; rw [hks] at this; simp [wtL, wtN_mk] at this; rw [wtN_mk]; omega) h2
        clear hks hm
        have HXT : Hid (stT (.mk 6 n kids p) pad = [105, 102, 32, 40] ++ exT (.mk k1 n1 m1 p1) 0 ++ [41] ++ blkT (.mk k2 n2 m2 p2) pad) := by
          show _ = _
          rw [HKS.out]
          simp [stT, ex0At, ex0s, blksT, blkT, Nd.kids, wIf]
        have HL2 : Hid ((L ++ stsT (l.take i) pad).length + (pad ++ ([105, 102, 32, 40] ++ exT (.mk k1 n1 m1 p1) 0 ++ [41] ++ blkT (.mk k2 n2 m2 p2) pad) ++ [10]).length ≤ 2 ^ 46) := by
          show _ ≤ _
          have h1 := HLEN.out
          have h2 := HJL.out
          rw [HJT.out, HXT.out] at h2
          simp at h1 h2 ⊢
          omega
        go_wp2_with fail
        refine (write_any b (L ++ stsT (l.take i) pad) pad _ _ HS0.out.st (by have := HL2.out; simp at this ⊢; omega)).mono ?_
        rintro e v1 ⟨rfl, g1, hp, ho⟩
        have HV1 := Lib.hid (HS0.out.step hp ho)
        clear hp ho HS0
        obtain ⟨x0, x1, x2, x3, _⟩ := HV1.out.box.facts
        rw [HM.out] at x2
        go_wp2_with fail
        refine (write_any b ((L ++ stsT (l.take i) pad) ++ pad) [105, 102, 32, 40] _ _ HV1.out.st (by have := HL2.out; simp at this ⊢; omega)).mono ?_
        rintro e v10 ⟨rfl, g10, hp, ho⟩
        have HV10 := Lib.hid (HV1.out.step hp ho)
        clear hp ho HV1
        clear x0 x1 x2 x3
        obtain ⟨_, z0, z1, z3, ya, ca, z2, hra⟩ := HV10.out.row.get hg1.out
        simp only [Nat.zero_mul, Nat.add_zero] at z0 z1 z2 z3
        have HRA := Lib.hid hra
        clear hra
        go_wp2_with fail
        refine (E1.out b (((L ++ stsT (l.take i) pad) ++ pad) ++ [105, 102, 32, 40]) _ _ _ (0) HV10.out.st ⟨ya, ca, rfl, HRA.out⟩ (by omega) (by have := HL2.out; simp at this ⊢; omega)).mono ?_
        clear z0 z1 z2 z3 HRA
        rintro e v11 ⟨rfl, g11, hp, ho⟩
        have HV11 := Lib.hid (HV10.out.step hp ho)
        clear hp ho HV10
        go_wp2_with fail
        refine (write_any b ((((L ++ stsT (l.take i) pad) ++ pad) ++ [105, 102, 32, 40]) ++ exT (.mk k1 n1 m1 p1) 0) [41] _ _ HV11.out.st (by have := HL2.out; simp at this ⊢; omega)).mono ?_
        rintro e v12 ⟨rfl, g12, hp, ho⟩
        have HV12 := Lib.hid (HV11.out.step hp ho)
        clear hp ho HV11
        obtain ⟨_, z0, z1, z3, ya, ca, z2, hra⟩ := HV12.out.row.get hg2.out
        simp only [Nat.one_mul, Nat.reduceAdd, Nat.add_assoc] at z0 z1 z2 z3
        have HRA := Lib.hid hra
        clear hra
        go_wp2_with fail
        refine (B2.out b (((((L ++ stsT (l.take i) pad) ++ pad) ++ [105, 102, 32, 40]) ++ exT (.mk k1 n1 m1 p1) 0) ++ [41]) _ _ _ HV12.out.st ⟨ya, ca, rfl, HRA.out⟩ (by have := HL2.out; simp at this ⊢; omega)).mono ?_
        clear z0 z1 z2 z3 HRA
        rintro e v13 ⟨rfl, g13, hp, ho⟩
        have HV13 := Lib.hid (HV12.out.step hp ho)
        clear hp ho HV12
        go_wp2_with fail
        refine (write_any b ((((((L ++ stsT (l.take i) pad) ++ pad) ++ [105, 102, 32, 40]) ++ exT (.mk k1 n1 m1 p1) 0) ++ [41]) ++ blkT (.mk k2 n2 m2 p2) pad) [10] _ _ HV13.out.st (by have := HL2.out; simp at this ⊢; omega)).mono ?_
        rintro e v60 ⟨rfl, g60, hp, ho⟩
        have HV60 := Lib.hid (HV13.out.step hp ho)
        clear hp ho HV13
        go_wp2_with fail
        go_roundg (gk - 1)
        case measure => omega
        case rel =>
          refine ⟨i + 1, g60, rfl, by omega, ?_, hS.out.2.1.trans HV60.out.ow, hS.out.2.2.pr HV60.out.ow fun _ hk => (hS.out.1.buf hk).1⟩
          have := HV60.out.st
          rw [HJT.out, HXT.out]
          simpa using this
      · have hm : kids.length = 3 := by rw [hks]; rfl
        have hg1 : Hid (kids[0]? = some (.mk k1 n1 m1 p1)) := by
          show _ = _
          rw [hks]; rfl
        have hg2 : Hid (kids[1]? = some (.mk k2 n2 m2 p2)) := by
          show _ = _
          rw [hks]; rfl
        have hg3 : Hid (kids[2]? = some (.mk k3 n3 m3 p3)) := by
          show _ = _
          rw [hks]; rfl
        have HM := Lib.hid hm
        have HKS := Lib.hid hks
        have HWK : Hid (wtL kids + n.length + 1 ≤ wtL l) := by
          have := HWX.out
          rw [wtN_mk] at this
          exact this
        obtain ⟨kb, ko, rfl, _⟩ := HS0.out.row.at_ hg1.out
        rw [hm] at HS0 e2
        have E1 : Hid (ExP (.mk k1 n1 m1 p1)) := exp_all (2 ^ 40) _ (by have := HWK.out; rw [hks] at this; simp [wtL, wtN_mk] at this; have := HW.out; rw [wtN_mk]; omega) (by have := HWK.out; rw [hks] at this; simp [wtL, wtN_mk] at this; have := HW.out; rw [wtN_mk]; omega) h1
        have B2 : Hid (BlP (.mk k2 n2 m2 p2) pad) := HB.out _ (by have := HWK.out; rw [hks] at this; simp [wtL, wtN_mk] at this; rw [wtN_mk]; omega) h2
        have B3 : Hid (BlP (.mk k3 n3 m3 p3) pad) := HB.out _ (by have := HWK.out; rw [hks] at this; simp [wtL, wtN_mk] at this; rw [wtN_mk]; omega) h3
        clear hks hm
        have HXT : Hid (stT (.mk 6 n kids p) pad = [105, 102, 32, 40] ++ exT (.mk k1 n1 m1 p1) 0 ++ [41] ++ blkT (.mk k2 n2 m2 p2) pad ++ [32, 101, 108, 115, 101] ++ blkT (.mk k3 n3 m3 p3) pad) := by
          show _ = _
          rw [HKS.out]
          simp [stT, ex0At, ex0s, blksT, blkT, Nd.kids, wIf, wElse]
        have HL2 : Hid ((L ++ stsT (l.take i) pad).length + (pad ++ ([105, 102, 32, 40] ++ exT (.mk k1 n1 m1 p1) 0 ++ [41] ++ blkT (.mk k2 n2 m2 p2) pad ++ [32, 101, 108, 115, 101] ++ blkT (.mk k3 n3 m3 p3) pad) ++ [10]).length ≤ 2 ^ 46) := by
          show _ ≤ _
          have h1 := HLEN.out
          have h2 := HJL.out
          rw [HJT.out, HXT.out] at h2
          simp at h1 h2 ⊢
          omega
        go_wp2_with fail
        refine (write_any b (L ++ stsT (l.take i) pad) pad _ _ HS0.out.st (by have := HL2.out; simp at this ⊢; omega)).mono ?_
        rintro e v1 ⟨rfl, g1, hp, ho⟩
        have HV1 := Lib.hid (HS0.out.step hp ho)
        clear hp ho HS0
        obtain ⟨x0, x1, x2, x3, _⟩ := HV1.out.box.facts
        rw [HM.out] at x2
        go_wp2_with fail
        refine (write_any b ((L ++ stsT (l.take i) pad) ++ pad) [105, 102, 32, 40] _ _ HV1.out.st (by have := HL2.out; simp at this ⊢; omega)).mono ?_
        rintro e v10 ⟨rfl, g10, hp, ho⟩
        have HV10 := Lib.hid (HV1.out.step hp ho)
        clear hp ho HV1
        clear x0 x1 x2 x3
        obtain ⟨_, z0, z1, z3, ya, ca, z2, hra⟩ := HV10.out.row.get hg1.out
        simp only [Nat.zero_mul, Nat.add_zero] at z0 z1 z2 z3
        have HRA := Lib.hid hra
        clear hra
        go_wp2_with fail
        refine (E1.out b (((L ++ stsT (l.take i) pad) ++ pad) ++ [105, 102, 32, 40]) _ _ _ (0) HV10.out.st ⟨ya, ca, rfl, HRA.out⟩ (by omega) (by have := HL2.out; simp at this ⊢; omega)).mono ?_
        clear z0 z1 z2 z3 HRA
        rintro e v11 ⟨rfl, g11, hp, ho⟩
        have HV11 := Lib.hid (HV10.out.step hp ho)
        clear hp ho HV10
        go_wp2_with fail
        refine (write_any b ((((L ++ stsT (l.take i) pad) ++ pad) ++ [105, 102, 32, 40]) ++ exT (.mk k1 n1 m1 p1) 0) [41] _ _ HV11.out.st (by have := HL2.out; simp at this ⊢; omega)).mono ?_
        rintro e v12 ⟨rfl, g12, hp, ho⟩
        have HV12 := Lib.hid (HV11.out.step hp ho)
        clear hp ho HV11
        obtain ⟨_, z0, z1, z3, ya, ca, z2, hra⟩ := HV12.out.row.get hg2.out
        simp only [Nat.one_mul, Nat.reduceAdd, Nat.add_assoc] at z0 z1 z2 z3
        have HRA := Lib.hid hra
        clear hra
        go_wp2_with fail
        refine (B2.out b (((((L ++ stsT (l.take i) pad) ++ pad) ++ [105, 102, 32, 40]) ++ exT (.mk k1 n1 m1 p1) 0) ++ [41]) _ _ _ HV12.out.st ⟨ya, ca, rfl, HRA.out⟩ (by have := HL2.out; simp at this ⊢; omega)).mono ?_
        clear z0 z1 z2 z3 HRA
        rintro e v13 ⟨rfl, g13, hp, ho⟩
        have HV13 := Lib.hid (HV12.out.step hp ho)
        clear hp ho HV12
        go_wp2_with fail
        refine (write_any b ((((((L ++ stsT (l.take i) pad) ++ pad) ++ [105, 102, 32, 40]) ++ exT (.mk k1 n1 m1 p1) 0) ++ [41]) ++ blkT (.mk k2 n2 m2 p2) pad) [32, 101, 108, 115, 101] _ _ HV13.out.st (by have := HL2.out; simp at this ⊢; omega)).mono ?_
        rintro e v14 ⟨rfl, g14, hp, ho⟩
        have HV14 := Lib.hid (HV13.out.step hp ho)
        clear hp ho HV13
        obtain ⟨_, z0, z1, z3, ya, ca, z2, hra⟩ := HV14.out.row.get hg3.out
        simp only [Nat.reduceMul, Nat.reduceAdd, Nat.add_assoc] at z0 z1 z2 z3
        have HRA := Lib.hid hra
        clear hra
        go_wp2_with fail
        refine (B3.out b (((((((L ++ stsT (l.take i) pad) ++ pad) ++ [105, 102, 32, 40]) ++ exT (.mk k1 n1 m1 p1) 0) ++ [41]) ++ blkT (.mk k2 n2 m2 p2) pad) ++ [32, 101, 108, 115, 101]) _ _ _ HV14.out.st ⟨ya, ca, rfl, HRA.out⟩ (by have := HL2.out; simp at this ⊢; omega)).mono ?_
        clear z0 z1 z2 z3 HRA
        rintro e v15 ⟨rfl, g15, hp, ho⟩
        have HV15 := Lib.hid (HV14.out.step hp ho)
        clear hp ho HV14
        go_wp2_with fail
        refine (write_any b ((((((((L ++ stsT (l.take i) pad) ++ pad) ++ [105, 102, 32, 40]) ++ exT (.mk k1 n1 m1 p1) 0) ++ [41]) ++ blkT (.mk k2 n2 m2 p2) pad) ++ [32, 101, 108, 115, 101]) ++ blkT (.mk k3 n3 m3 p3) pad) [10] _ _ HV15.out.st (by have := HL2.out; simp at this ⊢; omega)).mono ?_
        rintro e v60 ⟨rfl, g60, hp, ho⟩
        have HV60 := Lib.hid (HV15.out.step hp ho)
        clear hp ho HV15
        go_wp2_with fail
        go_roundg (gk - 1)
        case measure => omega
        case rel =>
          refine ⟨i + 1, g60, rfl, by omega, ?_, hS.out.2.1.trans HV60.out.ow, hS.out.2.2.pr HV60.out.ow fun _ hk => (hS.out.1.buf hk).1⟩
          have := HV60.out.st
          rw [HJT.out, HXT.out]
          simpa using this
      · have hm : kids.length = 1 := by rw [hks]; rfl
        have hg1 : Hid (kids[0]? = some (.mk k1 n1 m1 p1)) := by
          show _ = _
          rw [hks]; rfl
        have HM := Lib.hid hm
        have HKS := Lib.hid hks
        have HWK : Hid (wtL kids + n.length + 1 ≤ wtL l) := by
          have := HWX.out
          rw [wtN_mk] at this
          exact this
        obtain ⟨kb, ko, rfl, _⟩ := HS0.out.row.at_ hg1.out
        rw [hm] at HS0 e2
        have R : Hid (RoP m1) := row_p m1 (fun z hz => exp_all (2 ^ 40) z (by have := HWK.out; rw [hks] at this; simp [wtL, wtN_mk] at this; have := HW.out; have := wtL_mem hz; omega) (by have := HWK.out; rw [hks] at this; simp [wtL, wtN_mk] at this; have := HW.out; have := wtL_mem hz; omega) ((fun z hz => exsR_mem h2 z hz) z hz)) (by have := HWK.out; rw [hks] at this; simp [wtL, wtN_mk] at this; have := HW.out; have := len_wtL m1; omega)
        obtain ⟨A1, hA1⟩ : ∃ c : List UInt8, c = n ++ [40] := ⟨_, rfl⟩
        have lA1 : A1.length < 2 ^ 41 + 20 := by
          have hnb := HWK.out
          have hww := HW.out
          rw [hA1]
          simp
          omega
        have fA1 : ∀ W, (Op.stringOp .add ⟨n.toArray⟩ ⟨#[40]⟩).run Tryz.prog W = .ok (.string ⟨A1.toArray⟩) W := cat_run n [40] A1 hA1 (by have hnb := HWK.out; have hww := HW.out; simp; omega)
        have HA1 := Lib.hid hA1
        clear hA1 lA1
        clear hks hm
        have HXT : Hid (stT (.mk 7 n kids p) pad = A1 ++ joinC (ex0s m1) ++ [41] ++ [59]) := by
          show _ = _
          rw [HKS.out]
          rw [HA1.out]
          simp [stT, rowT, grT]
        have HL2 : Hid ((L ++ stsT (l.take i) pad).length + (pad ++ (A1 ++ joinC (ex0s m1) ++ [41] ++ [59]) ++ [10]).length ≤ 2 ^ 46) := by
          show _ ≤ _
          have h1 := HLEN.out
          have h2 := HJL.out
          rw [HJT.out, HXT.out] at h2
          simp at h1 h2 ⊢
          omega
        go_wp2_with fail
        refine (write_any b (L ++ stsT (l.take i) pad) pad _ _ HS0.out.st (by have := HL2.out; simp at this ⊢; omega)).mono ?_
        rintro e v1 ⟨rfl, g1, hp, ho⟩
        have HV1 := Lib.hid (HS0.out.step hp ho)
        clear hp ho HS0
        obtain ⟨x0, x1, x2, x3, _⟩ := HV1.out.box.facts
        rw [HM.out] at x2
        obtain ⟨_, z0, z1, z3, ya, ca, z2, hra⟩ := HV1.out.row.get hg1.out
        simp only [Nat.zero_mul, Nat.add_zero] at z0 z1 z2 z3
        have HRA := Lib.hid hra
        clear hra
        go_wp2_with fail
        have HD30 := Lib.hid (HV1.out.drew)
        clear HV1
        go_still_tail 8, (by kernel_rfl)
        have HRB := Lib.hid (HRA.out.below (Below.drew (Below.refl _ _)))
        change wpList _ _ _ _ _ (World.drew v1)
        generalize World.drew v1 = d30 at *
        clear HRA x0 x1 x2 x3
        go_wp2_with fail
        refine (R.out b ((L ++ stsT (l.take i) pad) ++ pad) A1 [41] _ _ ya ca HD30.out.st HRB.out (by have := HL2.out; simp at this ⊢; omega)).mono ?_
        rintro e v10 ⟨rfl, g10, hp, ho⟩
        have HV10 := Lib.hid (HD30.out.step hp ho)
        clear hp ho HD30
        go_wp2_with fail
        refine (write_any b (((L ++ stsT (l.take i) pad) ++ pad) ++ (A1 ++ joinC (ex0s m1) ++ [41])) [59] _ _ HV10.out.st (by have := HL2.out; simp at this ⊢; omega)).mono ?_
        rintro e v11 ⟨rfl, g11, hp, ho⟩
        have HV11 := Lib.hid (HV10.out.step hp ho)
        clear hp ho HV10
        go_wp2_with fail
        refine (write_any b ((((L ++ stsT (l.take i) pad) ++ pad) ++ (A1 ++ joinC (ex0s m1) ++ [41])) ++ [59]) [10] _ _ HV11.out.st (by have := HL2.out; simp at this ⊢; omega)).mono ?_
        rintro e v60 ⟨rfl, g60, hp, ho⟩
        have HV60 := Lib.hid (HV11.out.step hp ho)
        clear hp ho HV11
        go_wp2_with fail
        go_roundg (gk - 1)
        case measure => omega
        case rel =>
          refine ⟨i + 1, g60, rfl, by omega, ?_, hS.out.2.1.trans HV60.out.ow, hS.out.2.2.pr HV60.out.ow fun _ hk => (hS.out.1.buf hk).1⟩
          have := HV60.out.st
          rw [HJT.out, HXT.out]
          simpa using this
      · have hm : kids.length = 2 := by rw [hks]; rfl
        have hg1 : Hid (kids[0]? = some (.mk k1 n1 m1 p1)) := by
          show _ = _
          rw [hks]; rfl
        have hg2 : Hid (kids[1]? = some (.mk k2 n2 m2 p2)) := by
          show _ = _
          rw [hks]; rfl
        have HM := Lib.hid hm
        have HKS := Lib.hid hks
        have HWK : Hid (wtL kids + n.length + 1 ≤ wtL l) := by
          have := HWX.out
          rw [wtN_mk] at this
          exact this
        obtain ⟨kb, ko, rfl, _⟩ := HS0.out.row.at_ hg1.out
        rw [hm] at HS0 e2
        have R : Hid (RoP m1) := row_p m1 (fun z hz => exp_all (2 ^ 40) z (by have := HWK.out; rw [hks] at this; simp [wtL, wtN_mk] at this; have := HW.out; have := wtL_mem hz; omega) (by have := HWK.out; rw [hks] at this; simp [wtL, wtN_mk] at this; have := HW.out; have := wtL_mem hz; omega) ((fun z hz => exsR_mem h2 z hz) z hz)) (by have := HWK.out; rw [hks] at this; simp [wtL, wtN_mk] at this; have := HW.out; have := len_wtL m1; omega)
        have B2 : Hid (BlP (.mk k2 n2 m2 p2) pad) := HB.out _ (by have := HWK.out; rw [hks] at this; simp [wtL, wtN_mk] at this; rw [wtN_mk]; omega) h3
        obtain ⟨A1, hA1⟩ : ∃ c : List UInt8, c = n ++ [40] := ⟨_, rfl⟩
        have lA1 : A1.length < 2 ^ 41 + 20 := by
          have hnb := HWK.out
          have hww := HW.out
          rw [hA1]
          simp
          omega
        have fA1 : ∀ W, (Op.stringOp .add ⟨n.toArray⟩ ⟨#[40]⟩).run Tryz.prog W = .ok (.string ⟨A1.toArray⟩) W := cat_run n [40] A1 hA1 (by have hnb := HWK.out; have hww := HW.out; simp; omega)
        have HA1 := Lib.hid hA1
        clear hA1 lA1
        clear hks hm
        have HXT : Hid (stT (.mk 7 n kids p) pad = A1 ++ joinC (ex0s m1) ++ [41] ++ blkT (.mk k2 n2 m2 p2) pad) := by
          show _ = _
          rw [HKS.out]
          rw [HA1.out]
          simp [stT, rowT, grT, blksT, blkT, Nd.kids]
        have HL2 : Hid ((L ++ stsT (l.take i) pad).length + (pad ++ (A1 ++ joinC (ex0s m1) ++ [41] ++ blkT (.mk k2 n2 m2 p2) pad) ++ [10]).length ≤ 2 ^ 46) := by
          show _ ≤ _
          have h1 := HLEN.out
          have h2 := HJL.out
          rw [HJT.out, HXT.out] at h2
          simp at h1 h2 ⊢
          omega
        go_wp2_with fail
        refine (write_any b (L ++ stsT (l.take i) pad) pad _ _ HS0.out.st (by have := HL2.out; simp at this ⊢; omega)).mono ?_
        rintro e v1 ⟨rfl, g1, hp, ho⟩
        have HV1 := Lib.hid (HS0.out.step hp ho)
        clear hp ho HS0
        obtain ⟨x0, x1, x2, x3, _⟩ := HV1.out.box.facts
        rw [HM.out] at x2
        obtain ⟨_, z0, z1, z3, ya, ca, z2, hra⟩ := HV1.out.row.get hg1.out
        simp only [Nat.zero_mul, Nat.add_zero] at z0 z1 z2 z3
        have HRA := Lib.hid hra
        clear hra
        go_wp2_with fail
        have HD30 := Lib.hid (HV1.out.drew)
        clear HV1
        go_still_tail 8, (by kernel_rfl)
        have HRB := Lib.hid (HRA.out.below (Below.drew (Below.refl _ _)))
        change wpList _ _ _ _ _ (World.drew v1)
        generalize World.drew v1 = d30 at *
        clear HRA x0 x1 x2 x3
        go_wp2_with fail
        refine (R.out b ((L ++ stsT (l.take i) pad) ++ pad) A1 [41] _ _ ya ca HD30.out.st HRB.out (by have := HL2.out; simp at this ⊢; omega)).mono ?_
        rintro e v10 ⟨rfl, g10, hp, ho⟩
        have HV10 := Lib.hid (HD30.out.step hp ho)
        clear hp ho HD30
        obtain ⟨_, z0, z1, z3, ya, ca, z2, hra⟩ := HV10.out.row.get hg2.out
        simp only [Nat.one_mul, Nat.reduceAdd, Nat.add_assoc] at z0 z1 z2 z3
        have HRA := Lib.hid hra
        clear hra
        go_wp2_with fail
        refine (B2.out b (((L ++ stsT (l.take i) pad) ++ pad) ++ (A1 ++ joinC (ex0s m1) ++ [41])) _ _ _ HV10.out.st ⟨ya, ca, rfl, HRA.out⟩ (by have := HL2.out; simp at this ⊢; omega)).mono ?_
        clear z0 z1 z2 z3 HRA
        rintro e v11 ⟨rfl, g11, hp, ho⟩
        have HV11 := Lib.hid (HV10.out.step hp ho)
        clear hp ho HV10
        go_wp2_with fail
        refine (write_any b ((((L ++ stsT (l.take i) pad) ++ pad) ++ (A1 ++ joinC (ex0s m1) ++ [41])) ++ blkT (.mk k2 n2 m2 p2) pad) [10] _ _ HV11.out.st (by have := HL2.out; simp at this ⊢; omega)).mono ?_
        rintro e v60 ⟨rfl, g60, hp, ho⟩
        have HV60 := Lib.hid (HV11.out.step hp ho)
        clear hp ho HV11
        go_wp2_with fail
        go_roundg (gk - 1)
        case measure => omega
        case rel =>
          refine ⟨i + 1, g60, rfl, by omega, ?_, hS.out.2.1.trans HV60.out.ow, hS.out.2.2.pr HV60.out.ow fun _ hk => (hS.out.1.buf hk).1⟩
          have := HV60.out.st
          rw [HJT.out, HXT.out]
          simpa using this
    · have hlt' : ¬ (i : Int) < (n0 : Int) := by omega
      go_wp2_with fail
      go_end0
      refine ⟨rfl, gx, ?_, hS.out.2.1⟩
      have := hS.out.1
      rw [List.take_of_length_le (by have := HN.out; omega)] at this
      rw [← HX.out]
      exact this
end Go.Proofs.YtpbkeamjdolpgaaGreatDoor
