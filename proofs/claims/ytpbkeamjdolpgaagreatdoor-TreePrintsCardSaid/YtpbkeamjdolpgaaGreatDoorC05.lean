/- The walk of the reference's text: one kind. The walk of the reference's text. -/
import Derived.Test.YtpbkeamjdolpgaaGreatDoorC04
import Derived.Test.YtpbkeamjdolpgaaGreatDoorC01
import Derived.BigQuiet
import Derived.Deep.QuietTactic
import Derived.Lib.QuietBelow
namespace Go.Proofs.YtpbkeamjdolpgaaGreatDoor
open Go.RowKit Go.Lib Go.Shelf Go.Sort

set_option maxHeartbeats 4000000 in
set_option maxRecDepth 100000 in
theorem rtx_apply (n : List UInt8) (p : Int) (l : List Nd) (q : Int) (hl : RTs l) : RTx (.mk 13 n [.mk 8 [] l q] p) := by
  intro ok v a w hv ha hlen
  obtain ⟨y, c, rfl, hrow⟩ := hv
  have hA : Below w.heap.size w (w.alloc (ndO 13 n y 1 c p)) := (Below.refl _ _).alloc (Nat.le_refl _) _
  have B0 := Lib.hid (NdBox.new w 13 n y 1 c p)
  have HA := Lib.hid hA
  have C0 : Hid (∀ W, Below (w.alloc (ndO 13 n y 1 c p)).heap.size (w.alloc (ndO 13 n y 1 c p)) W → Calls Tryz.prog 152 #[.agg #[.int .i64 13, .string ⟨n.toArray⟩, .slice y 1 c, .int .i64 p]] W fun e w' => e = .returned (.int .i64 (tightR (.mk 13 n [.mk 8 [] l q] p))) ∧ Below W.heap.size W w') := fun W hW =>
    rtight_any ok (.mk 13 n [.mk 8 [] l q] p) (by show ([.mk 8 [] l q] : List Nd).length < _; simp) _ W ⟨y, c, rfl, (hrow.below hA).below hW⟩
  obtain ⟨T, hT⟩ : ∃ T, tightR (.mk 13 n [.mk 8 [] l q] p) = T := ⟨_, rfl⟩
  have hTl : T < 50 := by
    rw [← hT]
    exact tightR_lt _
  obtain ⟨BODY, hBODY⟩ : ∃ b, ((n ++ [40]) ++ joinC (ex0s l)) ++ [41] = b := ⟨_, rfl⟩
  have hx : exT (.mk 13 n [.mk 8 [] l q] p) a = parT (decide (T < a)) BODY := by
    rw [← hBODY, ← hT]
    rw [exT]
    rfl
  obtain ⟨X, hX⟩ : ∃ X, exT (.mk 13 n [.mk 8 [] l q] p) a = X := ⟨_, rfl⟩
  rw [hX] at hx hlen ⊢
  have hbl : BODY.length ≤ X.length := by rw [hx]; exact parT_len _ _
  have HX := Lib.hid hx
  rw [hT] at C0
  have CY0 : Hid (∀ W y c, NdRow W ok l y → Calls Tryz.prog 99 #[.slice y l.length c] W fun e w' => e = .returned (.string ⟨(joinC (ex0s l)).toArray⟩) ∧ Below W.heap.size W w') := fun W y c hr =>
    hl ok y c W hr (by rw [← hBODY] at hbl; simp only [List.length_append] at hbl; omega)
  obtain ⟨Y0, hY0⟩ : ∃ Y, joinC (ex0s l) = Y := ⟨_, rfl⟩
  rw [hY0] at CY0 hBODY
  have hbl2 := hbl
  rw [← hBODY] at hbl2
  simp only [List.length_append, List.length_cons, List.length_nil] at hbl2
  obtain ⟨A0, hA0⟩ : ∃ A, n ++ [40] = A := ⟨_, rfl⟩
  rw [hA0] at hBODY
  have lA0 : A0.length = (n : List UInt8).length + ([40] : List UInt8).length := by rw [← hA0, List.length_append]
  try simp only [List.length_cons, List.length_nil] at lA0
  have f0 : ∀ W, (Op.stringOp .add ⟨n.toArray⟩ ⟨#[40]⟩).run Tryz.prog W = .ok (.string ⟨A0.toArray⟩) W := cat_run n [40] _ hA0.symm (by simp; omega)
  obtain ⟨A1, hA1⟩ : ∃ A, A0 ++ Y0 = A := ⟨_, rfl⟩
  rw [hA1] at hBODY
  have lA1 : A1.length = (A0 : List UInt8).length + (Y0 : List UInt8).length := by rw [← hA1, List.length_append]
  try simp only [List.length_cons, List.length_nil] at lA1
  have f1 : ∀ W, (Op.stringOp .add ⟨A0.toArray⟩ ⟨Y0.toArray⟩).run Tryz.prog W = .ok (.string ⟨A1.toArray⟩) W := cat_run A0 Y0 _ hA1.symm (by simp; omega)
  obtain ⟨A2, hA2⟩ : ∃ A, A1 ++ [41] = A := ⟨_, rfl⟩
  rw [hA2] at hBODY
  have lA2 : A2.length = (A1 : List UInt8).length + ([41] : List UInt8).length := by rw [← hA2, List.length_append]
  try simp only [List.length_cons, List.length_nil] at lA2
  have f2 : ∀ W, (Op.stringOp .add ⟨A1.toArray⟩ ⟨#[41]⟩).run Tryz.prog W = .ok (.string ⟨A2.toArray⟩) W := cat_run A1 [41] _ hA2.symm (by simp; omega)
  have hfin : A2 = BODY := hBODY
  have g0 : ∀ W, (Op.stringOp .add ⟨#[40]⟩ ⟨A2.toArray⟩).run Tryz.prog W = .ok (.string ⟨([40] ++ A2).toArray⟩) W := cat_run [40] A2 _ rfl (by rw [hfin]; simp only [List.length_cons, List.length_nil]; omega)
  have g1 : ∀ W, (Op.stringOp .add ⟨([40] ++ A2).toArray⟩ ⟨#[41]⟩).run Tryz.prog W = .ok (.string ⟨([40] ++ A2 ++ [41]).toArray⟩) W := cat_run ([40] ++ A2) [41] _ rfl (by rw [hfin]; simp only [List.length_append, List.length_cons, List.length_nil]; omega)
  have HF := Lib.hid hfin
  obtain ⟨P0, hP0⟩ : ∃ P, [40] ++ A2 = P := ⟨_, rfl⟩
  obtain ⟨P1, hP1⟩ : ∃ P, P0 ++ [41] = P := ⟨_, rfl⟩
  rw [hP0] at g0 g1
  rw [hP1] at g1
  have HP : Hid (P1 = [40] ++ A2 ++ [41]) := by
    show _ = _
    rw [← hP1, ← hP0]
  have hrw := hrow.below hA
  obtain ⟨B, o, rfl, hat0, hrw⟩ := hrw
  unfold ndO at B0 HA C0 hat0
  clear hrw hrow hA hlen hx hX hT hbl hbl2 hfin hP0 hP1 hY0 lA0 hA0 lA1 hA1 lA2 hA2 hBODY 
  go_enter Tryz.func98, Tryz.ntmps98
  go_wp2_with fail
  generalize w.alloc (.cells #[.int .i64 13, .string ⟨n.toArray⟩, .slice (some ⟨B, o, none⟩) 1 c, .int .i64 p] 53) = wA at *
  refine (C0.out _ (Below.refl _ _)).mono ?_
  rintro e w2 ⟨rfl, hb2⟩
  obtain ⟨b0, b1, b2, b3⟩ := B0.out.below hb2
  have HB2 := Lib.hid (HA.out.trans (hb2.mono HA.out.size))
  obtain ⟨k0, nm0, z0, m0, cc0, q0, e0, x00, x01, x02, x03, hk0⟩ := (hat0.mono_below hb2).val
  clear C0 hb2
  cases e0
  have cEY0 := fun d os => Calls.regrown_of (CY0.out (grow (redrawn w2 d) os) z0 cc0 (hk0.below (below_regrown w2 d os)))
  have rb1 := cell_regrown b1
  have rx02 := cell_regrown x02
  clear CY0 hk0 hat0
  go_wp2_with fail
  refine wp_region_quiet_below (by kernel_rfl) (by kernel_rfl) ?_
  repeat (go_big_quiet_step (first | with_reducible exact cEY0 _ _))
  refine wpQuiet_nil ?_
  intro _ hw'
  obtain ⟨⟨dq, osq⟩, hw''⟩ := hw'
  subst hw''
  have hb3 := below_regrown w2 dq osq
  generalize grow (redrawn w2 dq) osq = w3 at *
  have HB3 := Lib.hid (HB2.out.trans (hb3.mono HB2.out.size))
  clear rb1 rx02 cEY0 hb3
  by_cases hq : T < a
  · have Q : (T : Int) < (a : Int) := by omega
    have HX2 : Hid (X = P1) := by
      show X = P1
      rw [HX.out, decide_eq_true hq, HP.out, HF.out]
      rfl
    clear hq HX HP HF
    go_wp2_with fail
    go_ret
    exact ⟨by rw [HX2.out]; rfl, HB3.out⟩
  · have Q : ¬ (T : Int) < (a : Int) := by omega
    have HX2 : Hid (X = A2) := by
      show X = A2
      rw [HX.out, decide_eq_false hq, HF.out]
      rfl
    clear hq HX HP HF
    go_wp2_with fail
    go_ret
    exact ⟨by rw [HX2.out]; rfl, HB3.out⟩
end Go.Proofs.YtpbkeamjdolpgaaGreatDoor
namespace Go.Proofs.YtpbkeamjdolpgaaGreatDoor
open Go.RowKit Go.Lib Go.Shelf Go.Sort

/-- The reference's text of a right node. -/
theorem rtext_all : ∀ (N : Nat) (x : Nd), wtN x < N → wtN x < 2 ^ 40 → exR x = true → RTx x
  | 0, _, h, _, _ => by omega
  | N + 1, x, hN, hw, hx => by
    have hl := fun (k : Int) (n : List UInt8) (l : List Nd) (p : Int) (y : Nd) (hy : y ∈ l) => kid_wt (k := k) (n := n) (p := p) hy
    cases exC_of hx with
    | num s p _ => exact rtx_leaf9 s p
    | name s p _ => exact rtx_leaf10 s p
    | list l p h =>
      rw [wtN_mk] at hw
      have := len_wtL l
      exact rtx_list 0 l p (by omega) (rtexts_any l (fun y hy => rtext_all N y (by have := hl 11 [] l p y hy; omega) (by have := wtL_mem hy; omega) (exsR_mem h y hy)) (by omega))
    | one s y p _ h => exact rtx_one s y p (rtext_all N y (by have := hl 12 s [y] p y (by simp); omega) (by have := hl 12 s [y] p y (by simp); omega) h)
    | two s y z p _ h k =>
      have h1 := rtext_all N y (by have := hl 12 s [y, z] p y (by simp); omega) (by have := hl 12 s [y, z] p y (by simp); omega) h
      have h2 := rtext_all N z (by have := hl 12 s [y, z] p z (by simp); omega) (by have := hl 12 s [y, z] p z (by simp); omega) k
      by_cases h3 : levelS s = 3
      · exact rtx_two3 s y z p h1 h2 h3
      · exact rtx_two s y z p h1 h2 h3
    | apply s l q p _ h =>
      rw [wtN_mk, show ∀ z, wtL [z] = wtN z from fun _ => rfl, wtN_mk] at hw hN
      have := len_wtL l
      exact rtx_apply s p l q (rtexts_any l (fun y hy => rtext_all N y (by have := wtL_mem hy; omega) (by have := wtL_mem hy; omega) (exsR_mem h y hy)) (by omega))
    | index y z p h k => exact rtx_index 0 y z p (rtext_all N y (by have := hl 14 [] [y, z] p y (by simp); omega) (by have := hl 14 [] [y, z] p y (by simp); omega) h) (rtext_all N z (by have := hl 14 [] [y, z] p z (by simp); omega) (by have := hl 14 [] [y, z] p z (by simp); omega) k)
    | pick y z u p h k m => exact rtx_pick 0 y z u p (rtext_all N y (by have := hl 15 [] [y, z, u] p y (by simp); omega) (by have := hl 15 [] [y, z, u] p y (by simp); omega) h) (rtext_all N z (by have := hl 15 [] [y, z, u] p z (by simp); omega) (by have := hl 15 [] [y, z, u] p z (by simp); omega) k) (rtext_all N u (by have := hl 15 [] [y, z, u] p u (by simp); omega) (by have := hl 15 [] [y, z, u] p u (by simp); omega) m)
end Go.Proofs.YtpbkeamjdolpgaaGreatDoor
