/- The walks of the reference's inner and lines. -/
import Derived.Test.YtpbkeamjdolpgaaGreatDoorC05
namespace Go.Proofs.YtpbkeamjdolpgaaGreatDoor
open Go.RowKit Go.Lib Go.Shelf Go.Sort

/-- A block's text. -/
def blkR (b : List Nd) (pad : List UInt8) : List UInt8 := [32, 123, 10] ++ stsT b (pad ++ [32, 32]) ++ (pad ++ [125])
/-- The reference's lines of statements. -/
def RLn (l : List Nd) : Prop := ∀ (ok : Nat → Prop) (y : Option Addr) (c : Nat) (pad : List UInt8) (w : World), NdRow w ok l y → (stsT l pad).length ≤ 2 ^ 46 → pad.length ≤ 2 ^ 46 →
  Calls Tryz.prog 55 #[.slice y l.length c, .string ⟨pad.toArray⟩] w fun e w' => e = .returned (.string ⟨(stsT l pad).toArray⟩) ∧ Below w.heap.size w w'
/-- The reference's inner of a block. -/
def RIn (b : List Nd) : Prop := ∀ (ok : Nat → Prop) (r : Int) (v : Value) (pad : List UInt8) (w : World), NdVal w ok (.mk 0 [] b r) v → (blkR b pad).length ≤ 2 ^ 46 →
  Calls Tryz.prog 100 #[v, .string ⟨pad.toArray⟩] w fun e w' => e = .returned (.string ⟨(blkR b pad).toArray⟩) ∧ Below w.heap.size w w'
set_option maxHeartbeats 4000000 in
set_option maxRecDepth 100000 in
theorem rinner_any (b : List Nd) (h : RLn b) : RIn b := by
  intro ok r v pad w hv hlen
  obtain ⟨y, c, rfl, hrow⟩ := hv
  have hA : Below w.heap.size w (w.alloc (ndO 0 [] y b.length c r)) := (Below.refl _ _).alloc (Nat.le_refl _) _
  have HA := Lib.hid hA
  have hl : (blkR b pad).length = 3 + (stsT b (pad ++ [32, 32])).length + (pad.length + 1) := by unfold blkR; simp; omega
  have c1 := h ok y c (pad ++ [32, 32]) _ (hrow.below hA) (by omega) (by simp; omega)
  unfold ndO at c1 HA
  obtain ⟨n, hn⟩ : ∃ n, b.length = n := ⟨_, rfl⟩
  rw [hn] at c1 HA ⊢
  obtain ⟨L, hL⟩ : ∃ L, stsT b (pad ++ [32, 32]) = L := ⟨_, rfl⟩
  have hX : blkR b pad = [32, 123, 10] ++ L ++ (pad ++ [125]) := by rw [← hL]; rfl
  rw [hL] at c1 hl
  obtain ⟨P2, hP2⟩ : ∃ P, pad ++ [32, 32] = P := ⟨_, rfl⟩
  have f0 : ∀ W, (Op.stringOp .add ⟨pad.toArray⟩ ⟨#[32, 32]⟩).run Tryz.prog W = .ok (.string ⟨P2.toArray⟩) W := cat_run pad [32, 32] _ hP2.symm (by simp; omega)
  rw [hP2] at c1
  obtain ⟨A0, hA0⟩ : ∃ P, [32, 123, 10] ++ L = P := ⟨_, rfl⟩
  have l0 : A0.length = 3 + L.length := by rw [← hA0]; simp; omega
  have f1 : ∀ W, (Op.stringOp .add ⟨#[32, 123, 10]⟩ ⟨L.toArray⟩).run Tryz.prog W = .ok (.string ⟨A0.toArray⟩) W := cat_run [32, 123, 10] L _ hA0.symm (by simp; omega)
  obtain ⟨A1, hA1⟩ : ∃ P, A0 ++ pad = P := ⟨_, rfl⟩
  have l1 : A1.length = A0.length + pad.length := by rw [← hA1]; simp
  have f2 : ∀ W, (Op.stringOp .add ⟨A0.toArray⟩ ⟨pad.toArray⟩).run Tryz.prog W = .ok (.string ⟨A1.toArray⟩) W := cat_run A0 pad _ hA1.symm (by omega)
  obtain ⟨A2, hA2⟩ : ∃ P, A1 ++ [125] = P := ⟨_, rfl⟩
  have f3 : ∀ W, (Op.stringOp .add ⟨A1.toArray⟩ ⟨#[125]⟩).run Tryz.prog W = .ok (.string ⟨A2.toArray⟩) W := cat_run A1 [125] _ hA2.symm (by simp; omega)
  have hX2 : blkR b pad = A2 := by
    rw [hX, ← hA2, ← hA1, ← hA0]
    simp only [List.append_assoc]
  rw [hX2]
  clear hrow hA hX hX2 hl hlen hn hL hP2 hA0 hA1 hA2 l0 l1 h
  go_enter Tryz.func100, Tryz.ntmps100
  go_wp2_with fail
  refine c1.mono ?_
  clear c1
  rintro e w2 ⟨rfl, hb2⟩
  go_wp2_with fail
  go_ret
  exact ⟨rfl, tr HA.out hb2⟩
theorem stsT_snoc : ∀ (l : List Nd) (x : Nd) (pad : List UInt8), stsT (l ++ [x]) pad = stsT l pad ++ (pad ++ stT x pad ++ [10])
  | [], x, pad => by
    show stsT [x] pad = [] ++ _
    rw [stsT, stsT, List.append_nil, List.nil_append]
  | y :: l, x, pad => by
    rw [List.cons_append, stsT, stsT_snoc l x pad, stsT]
    simp only [List.append_assoc]
theorem stsT_leR : ∀ (l : List Nd) (i : Nat) (pad : List UInt8), (stsT (l.take i) pad).length ≤ (stsT l pad).length
  | [], i, pad => by simp
  | x :: l, 0, pad => by
    show (0 : Nat) ≤ _
    omega
  | x :: l, i + 1, pad => by
    have := stsT_leR l i pad
    rw [List.take_succ_cons, stsT, stsT]
    simp only [List.length_append]
    omega
/-- What is known of a statement's parts. -/
def KnL (x : Nd) : Prop := match x with
  | .mk _ _ kids _ => ∀ z ∈ kids, (exR z = true → RTx z) ∧ (exsR z.kids = true → RTs z.kids) ∧ (stsR z.kids = true → RIn z.kids)
set_option maxHeartbeats 16000000 in
set_option maxRecDepth 100000 in
theorem rlines_any (l0 : List Nd) (hR : stsR l0 = true) (hK : ∀ x ∈ l0, KnL x) (hkl : l0.length < 2 ^ 62) : RLn l0 := by
  intro ok y c pad w hrow hlen hpl
  obtain ⟨n, hn⟩ : ∃ n, l0.length = n := ⟨_, rfl⟩
  have HN := Lib.hid hn
  have HKN : Hid (∀ x ∈ l0, ∀ z ∈ x.kids, (exR z = true → RTx z) ∧ (exsR z.kids = true → RTs z.kids) ∧ (stsR z.kids = true → RIn z.kids)) := fun x hx z hz => by
    obtain ⟨k, nm, kids, p⟩ := x
    exact hK _ hx z hz
  have HRR := Lib.hid hR
  have HLEN := Lib.hid hlen
  have HROW := Lib.hid hrow
  rw [hn] at hkl ⊢
  obtain ⟨X, hX⟩ : ∃ X, stsT l0 pad = X := ⟨_, rfl⟩
  rw [hX]
  have HX := Lib.hid hX
  clear hK hR hlen hrow hn hX
  go_enter Tryz.func55, Tryz.ntmps55
  go_wp2_with fail
  go_loopw [5, 6] (fun s v wx => ∃ i : Nat, v = .int .i64 i ∧ i ≤ n ∧ s = .string ⟨(stsT (l0.take i) pad).toArray⟩ ∧ Below w.heap.size w wx) (fun _ v _ => n - (RowKit.intOf v).toNat)
  case atStart => exact ⟨0, rfl, Nat.zero_le _, rfl, Below.refl _ _⟩
  case round =>
    obtain ⟨i, rfl, hi, rfl, hbw⟩ := hrel
    by_cases hlt : i < n
    · obtain ⟨x, hx0⟩ : ∃ x, l0[i]? = some x := ⟨l0[i]'(by have := HN.out; omega), List.getElem?_eq_getElem _⟩
      have hjt : stsT (l0.take (i + 1)) pad = stsT (l0.take i) pad ++ (pad ++ stT x pad ++ [10]) := by
        rw [List.take_add_one, hx0]
        exact stsT_snoc _ _ _
      have hlx : (stsT (l0.take i) pad).length + (pad.length + (stT x pad).length + 1) ≤ 2 ^ 46 := by
        have h1 := stsT_leR l0 (i + 1) pad
        have h2 := HLEN.out
        rw [hjt] at h1
        simp only [List.length_append, List.length_cons, List.length_nil] at h1
        omega
      obtain ⟨B, o, rfl, hat⟩ := (HROW.out.below hbw).at_ hx0
      have hst0 := stC_of (stsR_mem HRR.out x (List.mem_of_getElem? hx0))
      obtain ⟨S, hS⟩ : ∃ S, stsT (l0.take i) pad = S := ⟨_, rfl⟩
      rw [hS] at hjt hlx ⊢
      obtain ⟨S0, hS0⟩ : ∃ A, S ++ pad = A := ⟨_, rfl⟩
      have lS0 : S0.length = S.length + pad.length := by rw [← hS0, List.length_append]
      have fS : ∀ W, (Op.stringOp .add ⟨S.toArray⟩ ⟨pad.toArray⟩).run Tryz.prog W = .ok (.string ⟨S0.toArray⟩) W := cat_run S pad _ hS0.symm (by omega)
      have hlt' : (i : Int) < (n : Int) := by omega
      have Qi : IntKind.i64.wrap ((i : Int) + 1) = (i : Int) + 1 := IntWalk.i64_in _ (by omega)
      clear hS
      cases hst0 with
      | set s x q hs hx =>
        have hmem := HKN.out _ (List.mem_of_getElem? hx0)
        have hst : stT (.mk 1 s [x] q) pad = s ++ [32, 61, 32] ++ (exT x 0) ++ [59] := by
          rw [stT]
          simp [ex0At, ex0s, List.append_assoc]
        obtain ⟨hok, x0, x1, x3, z, cc, x2, hk⟩ := hat
        have hA : Below wr.heap.size wr (wr.alloc (ndO 1 s z 1 cc q)) := (Below.refl _ _).alloc (Nat.le_refl _) _
        have HA := Lib.hid hA
        have B0 := Lib.hid (NdBox.new wr 1 s z 1 cc q)
        have hrw := hk.below hA
        obtain ⟨B1, o1, rfl, hat0, hrw⟩ := hrw
        have hbnd := hlx
        rw [hst] at hjt hbnd
        simp only [List.length_append, List.length_cons, List.length_nil] at hbnd
        have C0 : Hid (∀ W v, NdVal W ok x v → Calls Tryz.prog 98 #[v, .int .i64 0] W fun e w' => e = .returned (.string ⟨(exT x 0).toArray⟩) ∧ Below W.heap.size W w') := fun W v hv =>
          (hmem x (by show _ ∈ ([x] : List Nd); simp)).1 hx ok v 0 W hv (by omega) (by omega)
        obtain ⟨Y0, hY0⟩ : ∃ Y, exT x 0 = Y := ⟨_, rfl⟩
        rw [hY0] at C0 hjt hbnd
        clear hY0 hst hlx
        obtain ⟨A0, hA0⟩ : ∃ A, S0 ++ s = A := ⟨_, rfl⟩
        have lA0 : A0.length = S0.length + (s : List UInt8).length := by rw [← hA0, List.length_append]
        try simp only [List.length_cons, List.length_nil] at lA0
        have fA0 : ∀ W, (Op.stringOp .add ⟨S0.toArray⟩ ⟨s.toArray⟩).run Tryz.prog W = .ok (.string ⟨A0.toArray⟩) W := cat_run S0 s _ hA0.symm (by (try simp only [List.length_cons, List.length_nil]); omega)
        obtain ⟨A1, hA1⟩ : ∃ A, A0 ++ [32, 61, 32] = A := ⟨_, rfl⟩
        have lA1 : A1.length = A0.length + ([32, 61, 32] : List UInt8).length := by rw [← hA1, List.length_append]
        try simp only [List.length_cons, List.length_nil] at lA1
        have fA1 : ∀ W, (Op.stringOp .add ⟨A0.toArray⟩ ⟨#[32, 61, 32]⟩).run Tryz.prog W = .ok (.string ⟨A1.toArray⟩) W := cat_run A0 [32, 61, 32] _ hA1.symm (by (try simp only [List.length_cons, List.length_nil]); omega)
        obtain ⟨A2, hA2⟩ : ∃ A, A1 ++ Y0 = A := ⟨_, rfl⟩
        have lA2 : A2.length = A1.length + (Y0 : List UInt8).length := by rw [← hA2, List.length_append]
        try simp only [List.length_cons, List.length_nil] at lA2
        have fA2 : ∀ W, (Op.stringOp .add ⟨A1.toArray⟩ ⟨Y0.toArray⟩).run Tryz.prog W = .ok (.string ⟨A2.toArray⟩) W := cat_run A1 Y0 _ hA2.symm (by (try simp only [List.length_cons, List.length_nil]); omega)
        obtain ⟨A3, hA3⟩ : ∃ A, A2 ++ [59] = A := ⟨_, rfl⟩
        have lA3 : A3.length = A2.length + ([59] : List UInt8).length := by rw [← hA3, List.length_append]
        try simp only [List.length_cons, List.length_nil] at lA3
        have fA3 : ∀ W, (Op.stringOp .add ⟨A2.toArray⟩ ⟨#[59]⟩).run Tryz.prog W = .ok (.string ⟨A3.toArray⟩) W := cat_run A2 [59] _ hA3.symm (by (try simp only [List.length_cons, List.length_nil]); omega)
        obtain ⟨A4, hA4⟩ : ∃ A, A3 ++ [10] = A := ⟨_, rfl⟩
        have lA4 : A4.length = A3.length + ([10] : List UInt8).length := by rw [← hA4, List.length_append]
        try simp only [List.length_cons, List.length_nil] at lA4
        have fA4 : ∀ W, (Op.stringOp .add ⟨A3.toArray⟩ ⟨#[10]⟩).run Tryz.prog W = .ok (.string ⟨A4.toArray⟩) W := cat_run A3 [10] _ hA4.symm (by (try simp only [List.length_cons, List.length_nil]); omega)
        have HJ : Hid (stsT (l0.take (i + 1)) pad = A4) := by
          show _ = _
          rw [hjt, ← hA4, ← hA3, ← hA2, ← hA1, ← hA0, ← hS0]
          simp only [List.append_assoc]
          try rfl
        clear hA0 lA0 hA1 lA1 hA2 lA2 hA3 lA3 hA4 lA4 hjt hbnd hS0 lS0 hmem
        have HAT0 := Lib.hid hat0
        obtain ⟨k0, nm0, z0, m0, cc0, q0, e0, x00, x01, x02, x03, hk0⟩ := hat0.val
        have cE0 := fun d os => Calls.regrown_of (C0.out (grow (redrawn (wr.alloc (ndO 1 s (some ⟨B1, o1, none⟩) 1 cc q)) d) os) (.agg #[.int .i64 k0, .string ⟨nm0.toArray⟩, .slice z0 m0.length cc0, .int .i64 q0]) (by rw [e0]; exact ⟨z0, cc0, rfl, hk0.below (below_regrown _ d os)⟩))
        obtain ⟨b0, b1, b2, b3⟩ := B0.out
        unfold ndO at cE0 HA B0 b0 b1 b2 b3 x00 x01 x02 x03 HAT0
        have rb1 := cell_regrown b1
        have rx00 := cell_regrown x00
        have rx01 := cell_regrown x01
        have rx02 := cell_regrown x02
        have rx03 := cell_regrown x03
        clear hk0 hat0 e0 hok hk hrw hA hx0 C0
        go_wp2_with fail
        generalize wr.alloc (.cells #[.int .i64 1, .string ⟨s.toArray⟩, .slice (some ⟨B1, o1, none⟩) 1 cc, .int .i64 q] 53) = wA at *
        refine wp_region_quiet_below (by kernel_rfl) (by kernel_rfl) ?_
        repeat (go_big_quiet_step (first | with_reducible exact cE0 _ _))
        refine wpQuiet_nil ?_
        intro _ hw'
        obtain ⟨⟨dq, osq⟩, hw''⟩ := hw'
        subst hw''
        have hb3 := below_regrown wA dq osq
        generalize grow (redrawn wA dq) osq = w3 at *
        have HB3 := Lib.hid (HA.out.trans (hb3.mono HA.out.size))
        clear rb1 rx00 rx01 rx02 rx03 cE0 b0 b1 b2 b3 x00 x01 x02 x03 x0 x1 x2 x3
        clear hb3
        go_wp2_with fail
        go_roundw
        case rel => exact ⟨i + 1, by go_num, by omega, by rw [HJ.out], tr hbw HB3.out⟩
        case measure => simp [RowKit.intOf]; omega
      | module s l q b r t hs hl hb =>
        have hmem := HKN.out _ (List.mem_of_getElem? hx0)
        have hst : stT (.mk 2 s [.mk 4 [] l q, .mk 0 [] b r] t) pad = [109, 111, 100, 117, 108, 101, 32] ++ s ++ [40] ++ (joinC (ex0s l)) ++ [41] ++ (blkR b pad) := by
          rw [stT]
          simp [rowT, grT, blk_at, blkR, wModule, List.append_assoc]
        obtain ⟨hok, x0, x1, x3, z, cc, x2, hk⟩ := hat
        have hA : Below wr.heap.size wr (wr.alloc (ndO 2 s z 2 cc t)) := (Below.refl _ _).alloc (Nat.le_refl _) _
        have HA := Lib.hid hA
        have B0 := Lib.hid (NdBox.new wr 2 s z 2 cc t)
        have hrw := hk.below hA
        obtain ⟨B1, o1, rfl, hat0, hrw⟩ := hrw
        obtain ⟨B', o', e', hat1, hrw⟩ := hrw
        cases e'
        have hbnd := hlx
        rw [hst] at hjt hbnd
        simp only [List.length_append, List.length_cons, List.length_nil] at hbnd
        have C0 : Hid (∀ W y c, NdRow W ok l y → Calls Tryz.prog 99 #[.slice y l.length c] W fun e w' => e = .returned (.string ⟨(joinC (ex0s l)).toArray⟩) ∧ Below W.heap.size W w') := fun W y c hr =>
          (hmem (.mk 4 [] l q) (by show _ ∈ ([.mk 4 [] l q, .mk 0 [] b r] : List Nd); simp)).2.1 (pars_exs hl) ok y c W hr (by show (joinC (ex0s l)).length ≤ _; omega)
        obtain ⟨Y0, hY0⟩ : ∃ Y, joinC (ex0s l) = Y := ⟨_, rfl⟩
        rw [hY0] at C0 hjt hbnd
        have C1 : Hid (∀ W v, NdVal W ok (.mk 0 [] b r) v → Calls Tryz.prog 100 #[v, .string ⟨pad.toArray⟩] W fun e w' => e = .returned (.string ⟨(blkR b pad).toArray⟩) ∧ Below W.heap.size W w') := fun W v hv =>
          (hmem (.mk 0 [] b r) (by show _ ∈ ([.mk 4 [] l q, .mk 0 [] b r] : List Nd); simp)).2.2 hb ok _ v pad W hv (by show (blkR b pad).length ≤ _; omega)
        obtain ⟨Y1, hY1⟩ : ∃ Y, blkR b pad = Y := ⟨_, rfl⟩
        rw [hY1] at C1 hjt hbnd
        clear hY0 hY1 hst hlx
        obtain ⟨A0, hA0⟩ : ∃ A, S0 ++ [109, 111, 100, 117, 108, 101, 32] = A := ⟨_, rfl⟩
        have lA0 : A0.length = S0.length + ([109, 111, 100, 117, 108, 101, 32] : List UInt8).length := by rw [← hA0, List.length_append]
        try simp only [List.length_cons, List.length_nil] at lA0
        have fA0 : ∀ W, (Op.stringOp .add ⟨S0.toArray⟩ ⟨#[109, 111, 100, 117, 108, 101, 32]⟩).run Tryz.prog W = .ok (.string ⟨A0.toArray⟩) W := cat_run S0 [109, 111, 100, 117, 108, 101, 32] _ hA0.symm (by (try simp only [List.length_cons, List.length_nil]); omega)
        obtain ⟨A1, hA1⟩ : ∃ A, A0 ++ s = A := ⟨_, rfl⟩
        have lA1 : A1.length = A0.length + (s : List UInt8).length := by rw [← hA1, List.length_append]
        try simp only [List.length_cons, List.length_nil] at lA1
        have fA1 : ∀ W, (Op.stringOp .add ⟨A0.toArray⟩ ⟨s.toArray⟩).run Tryz.prog W = .ok (.string ⟨A1.toArray⟩) W := cat_run A0 s _ hA1.symm (by (try simp only [List.length_cons, List.length_nil]); omega)
        obtain ⟨A2, hA2⟩ : ∃ A, A1 ++ [40] = A := ⟨_, rfl⟩
        have lA2 : A2.length = A1.length + ([40] : List UInt8).length := by rw [← hA2, List.length_append]
        try simp only [List.length_cons, List.length_nil] at lA2
        have fA2 : ∀ W, (Op.stringOp .add ⟨A1.toArray⟩ ⟨#[40]⟩).run Tryz.prog W = .ok (.string ⟨A2.toArray⟩) W := cat_run A1 [40] _ hA2.symm (by (try simp only [List.length_cons, List.length_nil]); omega)
        obtain ⟨A3, hA3⟩ : ∃ A, A2 ++ Y0 = A := ⟨_, rfl⟩
        have lA3 : A3.length = A2.length + (Y0 : List UInt8).length := by rw [← hA3, List.length_append]
        try simp only [List.length_cons, List.length_nil] at lA3
        have fA3 : ∀ W, (Op.stringOp .add ⟨A2.toArray⟩ ⟨Y0.toArray⟩).run Tryz.prog W = .ok (.string ⟨A3.toArray⟩) W := cat_run A2 Y0 _ hA3.symm (by (try simp only [List.length_cons, List.length_nil]); omega)
        obtain ⟨A4, hA4⟩ : ∃ A, A3 ++ [41] = A := ⟨_, rfl⟩
        have lA4 : A4.length = A3.length + ([41] : List UInt8).length := by rw [← hA4, List.length_append]
        try simp only [List.length_cons, List.length_nil] at lA4
        have fA4 : ∀ W, (Op.stringOp .add ⟨A3.toArray⟩ ⟨#[41]⟩).run Tryz.prog W = .ok (.string ⟨A4.toArray⟩) W := cat_run A3 [41] _ hA4.symm (by (try simp only [List.length_cons, List.length_nil]); omega)
        obtain ⟨A5, hA5⟩ : ∃ A, A4 ++ Y1 = A := ⟨_, rfl⟩
        have lA5 : A5.length = A4.length + (Y1 : List UInt8).length := by rw [← hA5, List.length_append]
        try simp only [List.length_cons, List.length_nil] at lA5
        have fA5 : ∀ W, (Op.stringOp .add ⟨A4.toArray⟩ ⟨Y1.toArray⟩).run Tryz.prog W = .ok (.string ⟨A5.toArray⟩) W := cat_run A4 Y1 _ hA5.symm (by (try simp only [List.length_cons, List.length_nil]); omega)
        obtain ⟨A6, hA6⟩ : ∃ A, A5 ++ [10] = A := ⟨_, rfl⟩
        have lA6 : A6.length = A5.length + ([10] : List UInt8).length := by rw [← hA6, List.length_append]
        try simp only [List.length_cons, List.length_nil] at lA6
        have fA6 : ∀ W, (Op.stringOp .add ⟨A5.toArray⟩ ⟨#[10]⟩).run Tryz.prog W = .ok (.string ⟨A6.toArray⟩) W := cat_run A5 [10] _ hA6.symm (by (try simp only [List.length_cons, List.length_nil]); omega)
        have HJ : Hid (stsT (l0.take (i + 1)) pad = A6) := by
          show _ = _
          rw [hjt, ← hA6, ← hA5, ← hA4, ← hA3, ← hA2, ← hA1, ← hA0, ← hS0]
          simp only [List.append_assoc]
          try rfl
        clear hA0 lA0 hA1 lA1 hA2 lA2 hA3 lA3 hA4 lA4 hA5 lA5 hA6 lA6 hjt hbnd hS0 lS0 hmem
        have HAT0 := Lib.hid hat0
        obtain ⟨k0, nm0, z0, m0, cc0, q0, e0, x00, x01, x02, x03, hk0⟩ := hat0.val
        have HAT1 := Lib.hid hat1
        obtain ⟨k1, nm1, z1, m1, cc1, q1, e1, x10, x11, x12, x13, hk1⟩ := hat1.val
        cases e0
        have cE0 := fun d os => Calls.regrown_of (C0.out (grow (redrawn (wr.alloc (ndO 2 s (some ⟨B1, o1, none⟩) 2 cc t)) d) os) z0 cc0 (hk0.below (below_regrown _ d os)))
        have cE1 := fun d os => Calls.regrown_of (C1.out (grow (redrawn (wr.alloc (ndO 2 s (some ⟨B1, o1, none⟩) 2 cc t)) d) os) (.agg #[.int .i64 k1, .string ⟨nm1.toArray⟩, .slice z1 m1.length cc1, .int .i64 q1]) (by rw [e1]; exact ⟨z1, cc1, rfl, hk1.below (below_regrown _ d os)⟩))
        obtain ⟨b0, b1, b2, b3⟩ := B0.out
        unfold ndO at cE0 cE1 HA B0 b0 b1 b2 b3 x00 x01 x02 x03 x10 x11 x12 x13 HAT0 HAT1
        have rb1 := cell_regrown b1
        have rx02 := cell_regrown x02
        have rx10 := cell_regrown x10
        have rx11 := cell_regrown x11
        have rx12 := cell_regrown x12
        have rx13 := cell_regrown x13
        clear hk0 hat0 hk1 hat1 e1 hok hk hrw hA hx0 C0 C1
        go_wp2_with fail
        generalize wr.alloc (.cells #[.int .i64 2, .string ⟨s.toArray⟩, .slice (some ⟨B1, o1, none⟩) 2 cc, .int .i64 t] 53) = wA at *
        refine wp_region_quiet_below (by kernel_rfl) (by kernel_rfl) ?_
        repeat (go_big_quiet_step (first | with_reducible exact cE0 _ _ | with_reducible exact cE1 _ _))
        refine wpQuiet_nil ?_
        intro _ hw'
        obtain ⟨⟨dq, osq⟩, hw''⟩ := hw'
        subst hw''
        have hb3 := below_regrown wA dq osq
        generalize grow (redrawn wA dq) osq = w3 at *
        have HB3 := Lib.hid (HA.out.trans (hb3.mono HA.out.size))
        clear rb1 rx02 rx10 rx11 rx12 rx13 cE0 cE1 b0 b1 b2 b3 x00 x01 x02 x03 x10 x11 x12 x13 x0 x1 x2 x3
        clear hb3
        go_wp2_with fail
        go_roundw
        case rel => exact ⟨i + 1, by go_num, by omega, by rw [HJ.out], tr hbw HB3.out⟩
        case measure => simp [RowKit.intOf]; omega
      | function s l q x t hs hl hx =>
        have hmem := HKN.out _ (List.mem_of_getElem? hx0)
        have hst : stT (.mk 3 s [.mk 4 [] l q, x] t) pad = [102, 117, 110, 99, 116, 105, 111, 110, 32] ++ s ++ [40] ++ (joinC (ex0s l)) ++ [41, 32, 61, 32] ++ (exT x 0) ++ [59] := by
          rw [stT]
          simp [ex0At, rowT, ex0s, grT, wFunction, List.append_assoc]
        obtain ⟨hok, x0, x1, x3, z, cc, x2, hk⟩ := hat
        have hA : Below wr.heap.size wr (wr.alloc (ndO 3 s z 2 cc t)) := (Below.refl _ _).alloc (Nat.le_refl _) _
        have HA := Lib.hid hA
        have B0 := Lib.hid (NdBox.new wr 3 s z 2 cc t)
        have hrw := hk.below hA
        obtain ⟨B1, o1, rfl, hat0, hrw⟩ := hrw
        obtain ⟨B', o', e', hat1, hrw⟩ := hrw
        cases e'
        have hbnd := hlx
        rw [hst] at hjt hbnd
        simp only [List.length_append, List.length_cons, List.length_nil] at hbnd
        have C0 : Hid (∀ W y c, NdRow W ok l y → Calls Tryz.prog 99 #[.slice y l.length c] W fun e w' => e = .returned (.string ⟨(joinC (ex0s l)).toArray⟩) ∧ Below W.heap.size W w') := fun W y c hr =>
          (hmem (.mk 4 [] l q) (by show _ ∈ ([.mk 4 [] l q, x] : List Nd); simp)).2.1 (pars_exs hl) ok y c W hr (by show (joinC (ex0s l)).length ≤ _; omega)
        obtain ⟨Y0, hY0⟩ : ∃ Y, joinC (ex0s l) = Y := ⟨_, rfl⟩
        rw [hY0] at C0 hjt hbnd
        have C1 : Hid (∀ W v, NdVal W ok x v → Calls Tryz.prog 98 #[v, .int .i64 0] W fun e w' => e = .returned (.string ⟨(exT x 0).toArray⟩) ∧ Below W.heap.size W w') := fun W v hv =>
          (hmem x (by show _ ∈ ([.mk 4 [] l q, x] : List Nd); simp)).1 hx ok v 0 W hv (by omega) (by omega)
        obtain ⟨Y1, hY1⟩ : ∃ Y, exT x 0 = Y := ⟨_, rfl⟩
        rw [hY1] at C1 hjt hbnd
        clear hY0 hY1 hst hlx
        obtain ⟨A0, hA0⟩ : ∃ A, S0 ++ [102, 117, 110, 99, 116, 105, 111, 110, 32] = A := ⟨_, rfl⟩
        have lA0 : A0.length = S0.length + ([102, 117, 110, 99, 116, 105, 111, 110, 32] : List UInt8).length := by rw [← hA0, List.length_append]
        try simp only [List.length_cons, List.length_nil] at lA0
        have fA0 : ∀ W, (Op.stringOp .add ⟨S0.toArray⟩ ⟨#[102, 117, 110, 99, 116, 105, 111, 110, 32]⟩).run Tryz.prog W = .ok (.string ⟨A0.toArray⟩) W := cat_run S0 [102, 117, 110, 99, 116, 105, 111, 110, 32] _ hA0.symm (by (try simp only [List.length_cons, List.length_nil]); omega)
        obtain ⟨A1, hA1⟩ : ∃ A, A0 ++ s = A := ⟨_, rfl⟩
        have lA1 : A1.length = A0.length + (s : List UInt8).length := by rw [← hA1, List.length_append]
        try simp only [List.length_cons, List.length_nil] at lA1
        have fA1 : ∀ W, (Op.stringOp .add ⟨A0.toArray⟩ ⟨s.toArray⟩).run Tryz.prog W = .ok (.string ⟨A1.toArray⟩) W := cat_run A0 s _ hA1.symm (by (try simp only [List.length_cons, List.length_nil]); omega)
        obtain ⟨A2, hA2⟩ : ∃ A, A1 ++ [40] = A := ⟨_, rfl⟩
        have lA2 : A2.length = A1.length + ([40] : List UInt8).length := by rw [← hA2, List.length_append]
        try simp only [List.length_cons, List.length_nil] at lA2
        have fA2 : ∀ W, (Op.stringOp .add ⟨A1.toArray⟩ ⟨#[40]⟩).run Tryz.prog W = .ok (.string ⟨A2.toArray⟩) W := cat_run A1 [40] _ hA2.symm (by (try simp only [List.length_cons, List.length_nil]); omega)
        obtain ⟨A3, hA3⟩ : ∃ A, A2 ++ Y0 = A := ⟨_, rfl⟩
        have lA3 : A3.length = A2.length + (Y0 : List UInt8).length := by rw [← hA3, List.length_append]
        try simp only [List.length_cons, List.length_nil] at lA3
        have fA3 : ∀ W, (Op.stringOp .add ⟨A2.toArray⟩ ⟨Y0.toArray⟩).run Tryz.prog W = .ok (.string ⟨A3.toArray⟩) W := cat_run A2 Y0 _ hA3.symm (by (try simp only [List.length_cons, List.length_nil]); omega)
        obtain ⟨A4, hA4⟩ : ∃ A, A3 ++ [41, 32, 61, 32] = A := ⟨_, rfl⟩
        have lA4 : A4.length = A3.length + ([41, 32, 61, 32] : List UInt8).length := by rw [← hA4, List.length_append]
        try simp only [List.length_cons, List.length_nil] at lA4
        have fA4 : ∀ W, (Op.stringOp .add ⟨A3.toArray⟩ ⟨#[41, 32, 61, 32]⟩).run Tryz.prog W = .ok (.string ⟨A4.toArray⟩) W := cat_run A3 [41, 32, 61, 32] _ hA4.symm (by (try simp only [List.length_cons, List.length_nil]); omega)
        obtain ⟨A5, hA5⟩ : ∃ A, A4 ++ Y1 = A := ⟨_, rfl⟩
        have lA5 : A5.length = A4.length + (Y1 : List UInt8).length := by rw [← hA5, List.length_append]
        try simp only [List.length_cons, List.length_nil] at lA5
        have fA5 : ∀ W, (Op.stringOp .add ⟨A4.toArray⟩ ⟨Y1.toArray⟩).run Tryz.prog W = .ok (.string ⟨A5.toArray⟩) W := cat_run A4 Y1 _ hA5.symm (by (try simp only [List.length_cons, List.length_nil]); omega)
        obtain ⟨A6, hA6⟩ : ∃ A, A5 ++ [59] = A := ⟨_, rfl⟩
        have lA6 : A6.length = A5.length + ([59] : List UInt8).length := by rw [← hA6, List.length_append]
        try simp only [List.length_cons, List.length_nil] at lA6
        have fA6 : ∀ W, (Op.stringOp .add ⟨A5.toArray⟩ ⟨#[59]⟩).run Tryz.prog W = .ok (.string ⟨A6.toArray⟩) W := cat_run A5 [59] _ hA6.symm (by (try simp only [List.length_cons, List.length_nil]); omega)
        obtain ⟨A7, hA7⟩ : ∃ A, A6 ++ [10] = A := ⟨_, rfl⟩
        have lA7 : A7.length = A6.length + ([10] : List UInt8).length := by rw [← hA7, List.length_append]
        try simp only [List.length_cons, List.length_nil] at lA7
        have fA7 : ∀ W, (Op.stringOp .add ⟨A6.toArray⟩ ⟨#[10]⟩).run Tryz.prog W = .ok (.string ⟨A7.toArray⟩) W := cat_run A6 [10] _ hA7.symm (by (try simp only [List.length_cons, List.length_nil]); omega)
        have HJ : Hid (stsT (l0.take (i + 1)) pad = A7) := by
          show _ = _
          rw [hjt, ← hA7, ← hA6, ← hA5, ← hA4, ← hA3, ← hA2, ← hA1, ← hA0, ← hS0]
          simp only [List.append_assoc]
          try rfl
        clear hA0 lA0 hA1 lA1 hA2 lA2 hA3 lA3 hA4 lA4 hA5 lA5 hA6 lA6 hA7 lA7 hjt hbnd hS0 lS0 hmem
        have HAT0 := Lib.hid hat0
        obtain ⟨k0, nm0, z0, m0, cc0, q0, e0, x00, x01, x02, x03, hk0⟩ := hat0.val
        have HAT1 := Lib.hid hat1
        obtain ⟨k1, nm1, z1, m1, cc1, q1, e1, x10, x11, x12, x13, hk1⟩ := hat1.val
        cases e0
        have cE0 := fun d os => Calls.regrown_of (C0.out (grow (redrawn (wr.alloc (ndO 3 s (some ⟨B1, o1, none⟩) 2 cc t)) d) os) z0 cc0 (hk0.below (below_regrown _ d os)))
        have cE1 := fun d os => Calls.regrown_of (C1.out (grow (redrawn (wr.alloc (ndO 3 s (some ⟨B1, o1, none⟩) 2 cc t)) d) os) (.agg #[.int .i64 k1, .string ⟨nm1.toArray⟩, .slice z1 m1.length cc1, .int .i64 q1]) (by rw [e1]; exact ⟨z1, cc1, rfl, hk1.below (below_regrown _ d os)⟩))
        obtain ⟨b0, b1, b2, b3⟩ := B0.out
        unfold ndO at cE0 cE1 HA B0 b0 b1 b2 b3 x00 x01 x02 x03 x10 x11 x12 x13 HAT0 HAT1
        have rb1 := cell_regrown b1
        have rx02 := cell_regrown x02
        have rx10 := cell_regrown x10
        have rx11 := cell_regrown x11
        have rx12 := cell_regrown x12
        have rx13 := cell_regrown x13
        clear hk0 hat0 hk1 hat1 e1 hok hk hrw hA hx0 C0 C1
        go_wp2_with fail
        generalize wr.alloc (.cells #[.int .i64 3, .string ⟨s.toArray⟩, .slice (some ⟨B1, o1, none⟩) 2 cc, .int .i64 t] 53) = wA at *
        refine wp_region_quiet_below (by kernel_rfl) (by kernel_rfl) ?_
        repeat (go_big_quiet_step (first | with_reducible exact cE0 _ _ | with_reducible exact cE1 _ _))
        refine wpQuiet_nil ?_
        intro _ hw'
        obtain ⟨⟨dq, osq⟩, hw''⟩ := hw'
        subst hw''
        have hb3 := below_regrown wA dq osq
        generalize grow (redrawn wA dq) osq = w3 at *
        have HB3 := Lib.hid (HA.out.trans (hb3.mono HA.out.size))
        clear rb1 rx02 rx10 rx11 rx12 rx13 cE0 cE1 b0 b1 b2 b3 x00 x01 x02 x03 x10 x11 x12 x13 x0 x1 x2 x3
        clear hb3
        go_wp2_with fail
        go_roundw
        case rel => exact ⟨i + 1, by go_num, by omega, by rw [HJ.out], tr hbw HB3.out⟩
        case measure => simp [RowKit.intOf]; omega
      | loop s x b r t hs hx hb =>
        have hmem := HKN.out _ (List.mem_of_getElem? hx0)
        have hst : stT (.mk 5 s [x, .mk 0 [] b r] t) pad = [102, 111, 114, 32, 40] ++ s ++ [32, 61, 32] ++ (exT x 0) ++ [41] ++ (blkR b pad) := by
          rw [stT]
          simp [ex0At, ex0s, blk_at, blkR, wFor, List.append_assoc]
        obtain ⟨hok, x0, x1, x3, z, cc, x2, hk⟩ := hat
        have hA : Below wr.heap.size wr (wr.alloc (ndO 5 s z 2 cc t)) := (Below.refl _ _).alloc (Nat.le_refl _) _
        have HA := Lib.hid hA
        have B0 := Lib.hid (NdBox.new wr 5 s z 2 cc t)
        have hrw := hk.below hA
        obtain ⟨B1, o1, rfl, hat0, hrw⟩ := hrw
        obtain ⟨B', o', e', hat1, hrw⟩ := hrw
        cases e'
        have hbnd := hlx
        rw [hst] at hjt hbnd
        simp only [List.length_append, List.length_cons, List.length_nil] at hbnd
        have C0 : Hid (∀ W v, NdVal W ok x v → Calls Tryz.prog 98 #[v, .int .i64 0] W fun e w' => e = .returned (.string ⟨(exT x 0).toArray⟩) ∧ Below W.heap.size W w') := fun W v hv =>
          (hmem x (by show _ ∈ ([x, .mk 0 [] b r] : List Nd); simp)).1 hx ok v 0 W hv (by omega) (by omega)
        obtain ⟨Y0, hY0⟩ : ∃ Y, exT x 0 = Y := ⟨_, rfl⟩
        rw [hY0] at C0 hjt hbnd
        have C1 : Hid (∀ W v, NdVal W ok (.mk 0 [] b r) v → Calls Tryz.prog 100 #[v, .string ⟨pad.toArray⟩] W fun e w' => e = .returned (.string ⟨(blkR b pad).toArray⟩) ∧ Below W.heap.size W w') := fun W v hv =>
          (hmem (.mk 0 [] b r) (by show _ ∈ ([x, .mk 0 [] b r] : List Nd); simp)).2.2 hb ok _ v pad W hv (by show (blkR b pad).length ≤ _; omega)
        obtain ⟨Y1, hY1⟩ : ∃ Y, blkR b pad = Y := ⟨_, rfl⟩
        rw [hY1] at C1 hjt hbnd
        clear hY0 hY1 hst hlx
        obtain ⟨A0, hA0⟩ : ∃ A, S0 ++ [102, 111, 114, 32, 40] = A := ⟨_, rfl⟩
        have lA0 : A0.length = S0.length + ([102, 111, 114, 32, 40] : List UInt8).length := by rw [← hA0, List.length_append]
        try simp only [List.length_cons, List.length_nil] at lA0
        have fA0 : ∀ W, (Op.stringOp .add ⟨S0.toArray⟩ ⟨#[102, 111, 114, 32, 40]⟩).run Tryz.prog W = .ok (.string ⟨A0.toArray⟩) W := cat_run S0 [102, 111, 114, 32, 40] _ hA0.symm (by (try simp only [List.length_cons, List.length_nil]); omega)
        obtain ⟨A1, hA1⟩ : ∃ A, A0 ++ s = A := ⟨_, rfl⟩
        have lA1 : A1.length = A0.length + (s : List UInt8).length := by rw [← hA1, List.length_append]
        try simp only [List.length_cons, List.length_nil] at lA1
        have fA1 : ∀ W, (Op.stringOp .add ⟨A0.toArray⟩ ⟨s.toArray⟩).run Tryz.prog W = .ok (.string ⟨A1.toArray⟩) W := cat_run A0 s _ hA1.symm (by (try simp only [List.length_cons, List.length_nil]); omega)
        obtain ⟨A2, hA2⟩ : ∃ A, A1 ++ [32, 61, 32] = A := ⟨_, rfl⟩
        have lA2 : A2.length = A1.length + ([32, 61, 32] : List UInt8).length := by rw [← hA2, List.length_append]
        try simp only [List.length_cons, List.length_nil] at lA2
        have fA2 : ∀ W, (Op.stringOp .add ⟨A1.toArray⟩ ⟨#[32, 61, 32]⟩).run Tryz.prog W = .ok (.string ⟨A2.toArray⟩) W := cat_run A1 [32, 61, 32] _ hA2.symm (by (try simp only [List.length_cons, List.length_nil]); omega)
        obtain ⟨A3, hA3⟩ : ∃ A, A2 ++ Y0 = A := ⟨_, rfl⟩
        have lA3 : A3.length = A2.length + (Y0 : List UInt8).length := by rw [← hA3, List.length_append]
        try simp only [List.length_cons, List.length_nil] at lA3
        have fA3 : ∀ W, (Op.stringOp .add ⟨A2.toArray⟩ ⟨Y0.toArray⟩).run Tryz.prog W = .ok (.string ⟨A3.toArray⟩) W := cat_run A2 Y0 _ hA3.symm (by (try simp only [List.length_cons, List.length_nil]); omega)
        obtain ⟨A4, hA4⟩ : ∃ A, A3 ++ [41] = A := ⟨_, rfl⟩
        have lA4 : A4.length = A3.length + ([41] : List UInt8).length := by rw [← hA4, List.length_append]
        try simp only [List.length_cons, List.length_nil] at lA4
        have fA4 : ∀ W, (Op.stringOp .add ⟨A3.toArray⟩ ⟨#[41]⟩).run Tryz.prog W = .ok (.string ⟨A4.toArray⟩) W := cat_run A3 [41] _ hA4.symm (by (try simp only [List.length_cons, List.length_nil]); omega)
        obtain ⟨A5, hA5⟩ : ∃ A, A4 ++ Y1 = A := ⟨_, rfl⟩
        have lA5 : A5.length = A4.length + (Y1 : List UInt8).length := by rw [← hA5, List.length_append]
        try simp only [List.length_cons, List.length_nil] at lA5
        have fA5 : ∀ W, (Op.stringOp .add ⟨A4.toArray⟩ ⟨Y1.toArray⟩).run Tryz.prog W = .ok (.string ⟨A5.toArray⟩) W := cat_run A4 Y1 _ hA5.symm (by (try simp only [List.length_cons, List.length_nil]); omega)
        obtain ⟨A6, hA6⟩ : ∃ A, A5 ++ [10] = A := ⟨_, rfl⟩
        have lA6 : A6.length = A5.length + ([10] : List UInt8).length := by rw [← hA6, List.length_append]
        try simp only [List.length_cons, List.length_nil] at lA6
        have fA6 : ∀ W, (Op.stringOp .add ⟨A5.toArray⟩ ⟨#[10]⟩).run Tryz.prog W = .ok (.string ⟨A6.toArray⟩) W := cat_run A5 [10] _ hA6.symm (by (try simp only [List.length_cons, List.length_nil]); omega)
        have HJ : Hid (stsT (l0.take (i + 1)) pad = A6) := by
          show _ = _
          rw [hjt, ← hA6, ← hA5, ← hA4, ← hA3, ← hA2, ← hA1, ← hA0, ← hS0]
          simp only [List.append_assoc]
          try rfl
        clear hA0 lA0 hA1 lA1 hA2 lA2 hA3 lA3 hA4 lA4 hA5 lA5 hA6 lA6 hjt hbnd hS0 lS0 hmem
        have HAT0 := Lib.hid hat0
        obtain ⟨k0, nm0, z0, m0, cc0, q0, e0, x00, x01, x02, x03, hk0⟩ := hat0.val
        have HAT1 := Lib.hid hat1
        obtain ⟨k1, nm1, z1, m1, cc1, q1, e1, x10, x11, x12, x13, hk1⟩ := hat1.val
        have cE0 := fun d os => Calls.regrown_of (C0.out (grow (redrawn (wr.alloc (ndO 5 s (some ⟨B1, o1, none⟩) 2 cc t)) d) os) (.agg #[.int .i64 k0, .string ⟨nm0.toArray⟩, .slice z0 m0.length cc0, .int .i64 q0]) (by rw [e0]; exact ⟨z0, cc0, rfl, hk0.below (below_regrown _ d os)⟩))
        have cE1 := fun d os => Calls.regrown_of (C1.out (grow (redrawn (wr.alloc (ndO 5 s (some ⟨B1, o1, none⟩) 2 cc t)) d) os) (.agg #[.int .i64 k1, .string ⟨nm1.toArray⟩, .slice z1 m1.length cc1, .int .i64 q1]) (by rw [e1]; exact ⟨z1, cc1, rfl, hk1.below (below_regrown _ d os)⟩))
        obtain ⟨b0, b1, b2, b3⟩ := B0.out
        unfold ndO at cE0 cE1 HA B0 b0 b1 b2 b3 x00 x01 x02 x03 x10 x11 x12 x13 HAT0 HAT1
        have rb1 := cell_regrown b1
        have rx00 := cell_regrown x00
        have rx01 := cell_regrown x01
        have rx02 := cell_regrown x02
        have rx03 := cell_regrown x03
        have rx10 := cell_regrown x10
        have rx11 := cell_regrown x11
        have rx12 := cell_regrown x12
        have rx13 := cell_regrown x13
        clear hk0 hat0 hk1 hat1 e0 e1 hok hk hrw hA hx0 C0 C1
        go_wp2_with fail
        generalize wr.alloc (.cells #[.int .i64 5, .string ⟨s.toArray⟩, .slice (some ⟨B1, o1, none⟩) 2 cc, .int .i64 t] 53) = wA at *
        refine wp_region_quiet_below (by kernel_rfl) (by kernel_rfl) ?_
        repeat (go_big_quiet_step (first | with_reducible exact cE0 _ _ | with_reducible exact cE1 _ _))
        refine wpQuiet_nil ?_
        intro _ hw'
        obtain ⟨⟨dq, osq⟩, hw''⟩ := hw'
        subst hw''
        have hb3 := below_regrown wA dq osq
        generalize grow (redrawn wA dq) osq = w3 at *
        have HB3 := Lib.hid (HA.out.trans (hb3.mono HA.out.size))
        clear rb1 rx00 rx01 rx02 rx03 rx10 rx11 rx12 rx13 cE0 cE1 b0 b1 b2 b3 x00 x01 x02 x03 x10 x11 x12 x13 x0 x1 x2 x3
        clear hb3
        go_wp2_with fail
        go_roundw
        case rel => exact ⟨i + 1, by go_num, by omega, by rw [HJ.out], tr hbw HB3.out⟩
        case measure => simp [RowKit.intOf]; omega
      | cond x b r t hx hb =>
        have hmem := HKN.out _ (List.mem_of_getElem? hx0)
        have hst : stT (.mk 6 ([] : List UInt8) [x, .mk 0 [] b r] t) pad = [105, 102, 32, 40] ++ (exT x 0) ++ [41] ++ (blkR b pad) := by
          rw [stT]
          simp [ex0At, ex0s, blk_at, blkR, wIf, List.append_assoc]
        obtain ⟨hok, x0, x1, x3, z, cc, x2, hk⟩ := hat
        have hA : Below wr.heap.size wr (wr.alloc (ndO 6 ([] : List UInt8) z 2 cc t)) := (Below.refl _ _).alloc (Nat.le_refl _) _
        have HA := Lib.hid hA
        have B0 := Lib.hid (NdBox.new wr 6 ([] : List UInt8) z 2 cc t)
        have hrw := hk.below hA
        obtain ⟨B1, o1, rfl, hat0, hrw⟩ := hrw
        obtain ⟨B', o', e', hat1, hrw⟩ := hrw
        cases e'
        have hbnd := hlx
        rw [hst] at hjt hbnd
        simp only [List.length_append, List.length_cons, List.length_nil] at hbnd
        have C0 : Hid (∀ W v, NdVal W ok x v → Calls Tryz.prog 98 #[v, .int .i64 0] W fun e w' => e = .returned (.string ⟨(exT x 0).toArray⟩) ∧ Below W.heap.size W w') := fun W v hv =>
          (hmem x (by show _ ∈ ([x, .mk 0 [] b r] : List Nd); simp)).1 hx ok v 0 W hv (by omega) (by omega)
        obtain ⟨Y0, hY0⟩ : ∃ Y, exT x 0 = Y := ⟨_, rfl⟩
        rw [hY0] at C0 hjt hbnd
        have C1 : Hid (∀ W v, NdVal W ok (.mk 0 [] b r) v → Calls Tryz.prog 100 #[v, .string ⟨pad.toArray⟩] W fun e w' => e = .returned (.string ⟨(blkR b pad).toArray⟩) ∧ Below W.heap.size W w') := fun W v hv =>
          (hmem (.mk 0 [] b r) (by show _ ∈ ([x, .mk 0 [] b r] : List Nd); simp)).2.2 hb ok _ v pad W hv (by show (blkR b pad).length ≤ _; omega)
        obtain ⟨Y1, hY1⟩ : ∃ Y, blkR b pad = Y := ⟨_, rfl⟩
        rw [hY1] at C1 hjt hbnd
        clear hY0 hY1 hst hlx
        obtain ⟨A0, hA0⟩ : ∃ A, S0 ++ [105, 102, 32, 40] = A := ⟨_, rfl⟩
        have lA0 : A0.length = S0.length + ([105, 102, 32, 40] : List UInt8).length := by rw [← hA0, List.length_append]
        try simp only [List.length_cons, List.length_nil] at lA0
        have fA0 : ∀ W, (Op.stringOp .add ⟨S0.toArray⟩ ⟨#[105, 102, 32, 40]⟩).run Tryz.prog W = .ok (.string ⟨A0.toArray⟩) W := cat_run S0 [105, 102, 32, 40] _ hA0.symm (by (try simp only [List.length_cons, List.length_nil]); omega)
        obtain ⟨A1, hA1⟩ : ∃ A, A0 ++ Y0 = A := ⟨_, rfl⟩
        have lA1 : A1.length = A0.length + (Y0 : List UInt8).length := by rw [← hA1, List.length_append]
        try simp only [List.length_cons, List.length_nil] at lA1
        have fA1 : ∀ W, (Op.stringOp .add ⟨A0.toArray⟩ ⟨Y0.toArray⟩).run Tryz.prog W = .ok (.string ⟨A1.toArray⟩) W := cat_run A0 Y0 _ hA1.symm (by (try simp only [List.length_cons, List.length_nil]); omega)
        obtain ⟨A2, hA2⟩ : ∃ A, A1 ++ [41] = A := ⟨_, rfl⟩
        have lA2 : A2.length = A1.length + ([41] : List UInt8).length := by rw [← hA2, List.length_append]
        try simp only [List.length_cons, List.length_nil] at lA2
        have fA2 : ∀ W, (Op.stringOp .add ⟨A1.toArray⟩ ⟨#[41]⟩).run Tryz.prog W = .ok (.string ⟨A2.toArray⟩) W := cat_run A1 [41] _ hA2.symm (by (try simp only [List.length_cons, List.length_nil]); omega)
        obtain ⟨A3, hA3⟩ : ∃ A, A2 ++ Y1 = A := ⟨_, rfl⟩
        have lA3 : A3.length = A2.length + (Y1 : List UInt8).length := by rw [← hA3, List.length_append]
        try simp only [List.length_cons, List.length_nil] at lA3
        have fA3 : ∀ W, (Op.stringOp .add ⟨A2.toArray⟩ ⟨Y1.toArray⟩).run Tryz.prog W = .ok (.string ⟨A3.toArray⟩) W := cat_run A2 Y1 _ hA3.symm (by (try simp only [List.length_cons, List.length_nil]); omega)
        obtain ⟨A4, hA4⟩ : ∃ A, A3 ++ [10] = A := ⟨_, rfl⟩
        have lA4 : A4.length = A3.length + ([10] : List UInt8).length := by rw [← hA4, List.length_append]
        try simp only [List.length_cons, List.length_nil] at lA4
        have fA4 : ∀ W, (Op.stringOp .add ⟨A3.toArray⟩ ⟨#[10]⟩).run Tryz.prog W = .ok (.string ⟨A4.toArray⟩) W := cat_run A3 [10] _ hA4.symm (by (try simp only [List.length_cons, List.length_nil]); omega)
        have HJ : Hid (stsT (l0.take (i + 1)) pad = A4) := by
          show _ = _
          rw [hjt, ← hA4, ← hA3, ← hA2, ← hA1, ← hA0, ← hS0]
          simp only [List.append_assoc]
          try rfl
        clear hA0 lA0 hA1 lA1 hA2 lA2 hA3 lA3 hA4 lA4 hjt hbnd hS0 lS0 hmem
        have HAT0 := Lib.hid hat0
        obtain ⟨k0, nm0, z0, m0, cc0, q0, e0, x00, x01, x02, x03, hk0⟩ := hat0.val
        have HAT1 := Lib.hid hat1
        obtain ⟨k1, nm1, z1, m1, cc1, q1, e1, x10, x11, x12, x13, hk1⟩ := hat1.val
        have cE0 := fun d os => Calls.regrown_of (C0.out (grow (redrawn (wr.alloc (ndO 6 ([] : List UInt8) (some ⟨B1, o1, none⟩) 2 cc t)) d) os) (.agg #[.int .i64 k0, .string ⟨nm0.toArray⟩, .slice z0 m0.length cc0, .int .i64 q0]) (by rw [e0]; exact ⟨z0, cc0, rfl, hk0.below (below_regrown _ d os)⟩))
        have cE1 := fun d os => Calls.regrown_of (C1.out (grow (redrawn (wr.alloc (ndO 6 ([] : List UInt8) (some ⟨B1, o1, none⟩) 2 cc t)) d) os) (.agg #[.int .i64 k1, .string ⟨nm1.toArray⟩, .slice z1 m1.length cc1, .int .i64 q1]) (by rw [e1]; exact ⟨z1, cc1, rfl, hk1.below (below_regrown _ d os)⟩))
        obtain ⟨b0, b1, b2, b3⟩ := B0.out
        unfold ndO at cE0 cE1 HA B0 b0 b1 b2 b3 x00 x01 x02 x03 x10 x11 x12 x13 HAT0 HAT1
        have rb1 := cell_regrown b1
        have rx00 := cell_regrown x00
        have rx01 := cell_regrown x01
        have rx02 := cell_regrown x02
        have rx03 := cell_regrown x03
        have rx10 := cell_regrown x10
        have rx11 := cell_regrown x11
        have rx12 := cell_regrown x12
        have rx13 := cell_regrown x13
        clear hk0 hat0 hk1 hat1 e0 e1 hok hk hrw hA hx0 C0 C1
        go_wp2_with fail
        generalize wr.alloc (.cells #[.int .i64 6, .string ⟨#[]⟩, .slice (some ⟨B1, o1, none⟩) 2 cc, .int .i64 t] 53) = wA at *
        refine wp_region_quiet_below (by kernel_rfl) (by kernel_rfl) ?_
        repeat (go_big_quiet_step (first | with_reducible exact cE0 _ _ | with_reducible exact cE1 _ _))
        refine wpQuiet_nil ?_
        intro _ hw'
        obtain ⟨⟨dq, osq⟩, hw''⟩ := hw'
        subst hw''
        have hb3 := below_regrown wA dq osq
        generalize grow (redrawn wA dq) osq = w3 at *
        have HB3 := Lib.hid (HA.out.trans (hb3.mono HA.out.size))
        clear rb1 rx00 rx01 rx02 rx03 rx10 rx11 rx12 rx13 cE0 cE1 b0 b1 b2 b3 x00 x01 x02 x03 x10 x11 x12 x13 x0 x1 x2 x3
        clear hb3
        go_wp2_with fail
        go_roundw
        case rel => exact ⟨i + 1, by go_num, by omega, by rw [HJ.out], tr hbw HB3.out⟩
        case measure => simp [RowKit.intOf]; omega
      | cond2 x b r b' r' t hx hb hb' =>
        have hmem := HKN.out _ (List.mem_of_getElem? hx0)
        have hst : stT (.mk 6 ([] : List UInt8) [x, .mk 0 [] b r, .mk 0 [] b' r'] t) pad = [105, 102, 32, 40] ++ (exT x 0) ++ [41] ++ (blkR b pad) ++ [32, 101, 108, 115, 101] ++ (blkR b' pad) := by
          rw [stT]
          simp [ex0At, ex0s, blk_at, blk_at2, blkR, wIf, wElse, List.append_assoc]
        obtain ⟨hok, x0, x1, x3, z, cc, x2, hk⟩ := hat
        have hA : Below wr.heap.size wr (wr.alloc (ndO 6 ([] : List UInt8) z 3 cc t)) := (Below.refl _ _).alloc (Nat.le_refl _) _
        have HA := Lib.hid hA
        have B0 := Lib.hid (NdBox.new wr 6 ([] : List UInt8) z 3 cc t)
        have hrw := hk.below hA
        obtain ⟨B1, o1, rfl, hat0, hrw⟩ := hrw
        obtain ⟨B', o', e', hat1, hrw⟩ := hrw
        cases e'
        obtain ⟨B', o', e', hat2, hrw⟩ := hrw
        cases e'
        have hbnd := hlx
        rw [hst] at hjt hbnd
        simp only [List.length_append, List.length_cons, List.length_nil] at hbnd
        have C0 : Hid (∀ W v, NdVal W ok x v → Calls Tryz.prog 98 #[v, .int .i64 0] W fun e w' => e = .returned (.string ⟨(exT x 0).toArray⟩) ∧ Below W.heap.size W w') := fun W v hv =>
          (hmem x (by show _ ∈ ([x, .mk 0 [] b r, .mk 0 [] b' r'] : List Nd); simp)).1 hx ok v 0 W hv (by omega) (by omega)
        obtain ⟨Y0, hY0⟩ : ∃ Y, exT x 0 = Y := ⟨_, rfl⟩
        rw [hY0] at C0 hjt hbnd
        have C1 : Hid (∀ W v, NdVal W ok (.mk 0 [] b r) v → Calls Tryz.prog 100 #[v, .string ⟨pad.toArray⟩] W fun e w' => e = .returned (.string ⟨(blkR b pad).toArray⟩) ∧ Below W.heap.size W w') := fun W v hv =>
          (hmem (.mk 0 [] b r) (by show _ ∈ ([x, .mk 0 [] b r, .mk 0 [] b' r'] : List Nd); simp)).2.2 hb ok _ v pad W hv (by show (blkR b pad).length ≤ _; omega)
        obtain ⟨Y1, hY1⟩ : ∃ Y, blkR b pad = Y := ⟨_, rfl⟩
        rw [hY1] at C1 hjt hbnd
        have C2 : Hid (∀ W v, NdVal W ok (.mk 0 [] b' r') v → Calls Tryz.prog 100 #[v, .string ⟨pad.toArray⟩] W fun e w' => e = .returned (.string ⟨(blkR b' pad).toArray⟩) ∧ Below W.heap.size W w') := fun W v hv =>
          (hmem (.mk 0 [] b' r') (by show _ ∈ ([x, .mk 0 [] b r, .mk 0 [] b' r'] : List Nd); simp)).2.2 hb' ok _ v pad W hv (by show (blkR b' pad).length ≤ _; omega)
        obtain ⟨Y2, hY2⟩ : ∃ Y, blkR b' pad = Y := ⟨_, rfl⟩
        rw [hY2] at C2 hjt hbnd
        clear hY0 hY1 hY2 hst hlx
        obtain ⟨A0, hA0⟩ : ∃ A, S0 ++ [105, 102, 32, 40] = A := ⟨_, rfl⟩
        have lA0 : A0.length = S0.length + ([105, 102, 32, 40] : List UInt8).length := by rw [← hA0, List.length_append]
        try simp only [List.length_cons, List.length_nil] at lA0
        have fA0 : ∀ W, (Op.stringOp .add ⟨S0.toArray⟩ ⟨#[105, 102, 32, 40]⟩).run Tryz.prog W = .ok (.string ⟨A0.toArray⟩) W := cat_run S0 [105, 102, 32, 40] _ hA0.symm (by (try simp only [List.length_cons, List.length_nil]); omega)
        obtain ⟨A1, hA1⟩ : ∃ A, A0 ++ Y0 = A := ⟨_, rfl⟩
        have lA1 : A1.length = A0.length + (Y0 : List UInt8).length := by rw [← hA1, List.length_append]
        try simp only [List.length_cons, List.length_nil] at lA1
        have fA1 : ∀ W, (Op.stringOp .add ⟨A0.toArray⟩ ⟨Y0.toArray⟩).run Tryz.prog W = .ok (.string ⟨A1.toArray⟩) W := cat_run A0 Y0 _ hA1.symm (by (try simp only [List.length_cons, List.length_nil]); omega)
        obtain ⟨A2, hA2⟩ : ∃ A, A1 ++ [41] = A := ⟨_, rfl⟩
        have lA2 : A2.length = A1.length + ([41] : List UInt8).length := by rw [← hA2, List.length_append]
        try simp only [List.length_cons, List.length_nil] at lA2
        have fA2 : ∀ W, (Op.stringOp .add ⟨A1.toArray⟩ ⟨#[41]⟩).run Tryz.prog W = .ok (.string ⟨A2.toArray⟩) W := cat_run A1 [41] _ hA2.symm (by (try simp only [List.length_cons, List.length_nil]); omega)
        obtain ⟨A3, hA3⟩ : ∃ A, A2 ++ Y1 = A := ⟨_, rfl⟩
        have lA3 : A3.length = A2.length + (Y1 : List UInt8).length := by rw [← hA3, List.length_append]
        try simp only [List.length_cons, List.length_nil] at lA3
        have fA3 : ∀ W, (Op.stringOp .add ⟨A2.toArray⟩ ⟨Y1.toArray⟩).run Tryz.prog W = .ok (.string ⟨A3.toArray⟩) W := cat_run A2 Y1 _ hA3.symm (by (try simp only [List.length_cons, List.length_nil]); omega)
        obtain ⟨A4, hA4⟩ : ∃ A, A3 ++ [32, 101, 108, 115, 101] = A := ⟨_, rfl⟩
        have lA4 : A4.length = A3.length + ([32, 101, 108, 115, 101] : List UInt8).length := by rw [← hA4, List.length_append]
        try simp only [List.length_cons, List.length_nil] at lA4
        have fA4 : ∀ W, (Op.stringOp .add ⟨A3.toArray⟩ ⟨#[32, 101, 108, 115, 101]⟩).run Tryz.prog W = .ok (.string ⟨A4.toArray⟩) W := cat_run A3 [32, 101, 108, 115, 101] _ hA4.symm (by (try simp only [List.length_cons, List.length_nil]); omega)
        obtain ⟨A5, hA5⟩ : ∃ A, A4 ++ Y2 = A := ⟨_, rfl⟩
        have lA5 : A5.length = A4.length + (Y2 : List UInt8).length := by rw [← hA5, List.length_append]
        try simp only [List.length_cons, List.length_nil] at lA5
        have fA5 : ∀ W, (Op.stringOp .add ⟨A4.toArray⟩ ⟨Y2.toArray⟩).run Tryz.prog W = .ok (.string ⟨A5.toArray⟩) W := cat_run A4 Y2 _ hA5.symm (by (try simp only [List.length_cons, List.length_nil]); omega)
        obtain ⟨A6, hA6⟩ : ∃ A, A5 ++ [10] = A := ⟨_, rfl⟩
        have lA6 : A6.length = A5.length + ([10] : List UInt8).length := by rw [← hA6, List.length_append]
        try simp only [List.length_cons, List.length_nil] at lA6
        have fA6 : ∀ W, (Op.stringOp .add ⟨A5.toArray⟩ ⟨#[10]⟩).run Tryz.prog W = .ok (.string ⟨A6.toArray⟩) W := cat_run A5 [10] _ hA6.symm (by (try simp only [List.length_cons, List.length_nil]); omega)
        have HJ : Hid (stsT (l0.take (i + 1)) pad = A6) := by
          show _ = _
          rw [hjt, ← hA6, ← hA5, ← hA4, ← hA3, ← hA2, ← hA1, ← hA0, ← hS0]
          simp only [List.append_assoc]
          try rfl
        clear hA0 lA0 hA1 lA1 hA2 lA2 hA3 lA3 hA4 lA4 hA5 lA5 hA6 lA6 hjt hbnd hS0 lS0 hmem
        have HAT0 := Lib.hid hat0
        obtain ⟨k0, nm0, z0, m0, cc0, q0, e0, x00, x01, x02, x03, hk0⟩ := hat0.val
        have HAT1 := Lib.hid hat1
        obtain ⟨k1, nm1, z1, m1, cc1, q1, e1, x10, x11, x12, x13, hk1⟩ := hat1.val
        have HAT2 := Lib.hid hat2
        obtain ⟨k2, nm2, z2, m2, cc2, q2, e2, x20, x21, x22, x23, hk2⟩ := hat2.val
        have cE0 := fun d os => Calls.regrown_of (C0.out (grow (redrawn (wr.alloc (ndO 6 ([] : List UInt8) (some ⟨B1, o1, none⟩) 3 cc t)) d) os) (.agg #[.int .i64 k0, .string ⟨nm0.toArray⟩, .slice z0 m0.length cc0, .int .i64 q0]) (by rw [e0]; exact ⟨z0, cc0, rfl, hk0.below (below_regrown _ d os)⟩))
        have cE1 := fun d os => Calls.regrown_of (C1.out (grow (redrawn (wr.alloc (ndO 6 ([] : List UInt8) (some ⟨B1, o1, none⟩) 3 cc t)) d) os) (.agg #[.int .i64 k1, .string ⟨nm1.toArray⟩, .slice z1 m1.length cc1, .int .i64 q1]) (by rw [e1]; exact ⟨z1, cc1, rfl, hk1.below (below_regrown _ d os)⟩))
        obtain ⟨b0, b1, b2, b3⟩ := B0.out
        unfold ndO at cE0 cE1 HA B0 b0 b1 b2 b3 x00 x01 x02 x03 x10 x11 x12 x13 x20 x21 x22 x23 HAT0 HAT1 HAT2
        have rb1 := cell_regrown b1
        have rx00 := cell_regrown x00
        have rx01 := cell_regrown x01
        have rx02 := cell_regrown x02
        have rx03 := cell_regrown x03
        have rx10 := cell_regrown x10
        have rx11 := cell_regrown x11
        have rx12 := cell_regrown x12
        have rx13 := cell_regrown x13
        clear hk0 hat0 hk1 hat1 hk2 hat2 e0 e1 e2 hok hk hrw hA hx0 C0 C1
        go_wp2_with fail
        generalize wr.alloc (.cells #[.int .i64 6, .string ⟨#[]⟩, .slice (some ⟨B1, o1, none⟩) 3 cc, .int .i64 t] 53) = wA at *
        refine wp_region_quiet_below (by kernel_rfl) (by kernel_rfl) ?_
        repeat (go_big_quiet_step (first | with_reducible exact cE0 _ _ | with_reducible exact cE1 _ _))
        refine wpQuiet_nil ?_
        intro _ hw'
        obtain ⟨⟨dq, osq⟩, hw''⟩ := hw'
        subst hw''
        have hb3 := below_regrown wA dq osq
        generalize grow (redrawn wA dq) osq = w3 at *
        have HB3 := Lib.hid (HA.out.trans (hb3.mono HA.out.size))
        clear rb1 rx00 rx01 rx02 rx03 rx10 rx11 rx12 rx13 cE0 cE1 b0 b1 b2 b3 x00 x01 x02 x03 x10 x11 x12 x13 x20 x21 x22 x23 x0 x1 x2 x3
        obtain ⟨u2, nn2, v2, mm2, dd2, qq2, ee2, y20, y21, y22, y23, hh2⟩ := (HAT2.out.mono_below hb3).val
        have c2 := C2.out w3 (.agg #[.int .i64 u2, .string ⟨nn2.toArray⟩, .slice v2 mm2.length dd2, .int .i64 qq2]) (by rw [ee2]; exact ⟨v2, dd2, rfl, hh2⟩)
        clear hh2 ee2 C2 hb3
        go_wp2_with fail
        refine c2.mono ?_
        clear c2
        rintro e w4 ⟨rfl, hb4⟩
        have HB4 := Lib.hid (HB3.out.trans (hb4.mono HB3.out.size))
        clear hb4 y20 y21 y22 y23
        go_wp2_with fail
        go_roundw
        case rel => exact ⟨i + 1, by go_num, by omega, by rw [HJ.out], tr hbw HB4.out⟩
        case measure => simp [RowKit.intOf]; omega
      | call s l q t hs hl =>
        have hmem := HKN.out _ (List.mem_of_getElem? hx0)
        have hst : stT (.mk 7 s [.mk 8 [] l q] t) pad = s ++ [40] ++ (joinC (ex0s l)) ++ [41] ++ [59] := by
          rw [stT]
          simp [rowT, grT, List.append_assoc]
        obtain ⟨hok, x0, x1, x3, z, cc, x2, hk⟩ := hat
        have hA : Below wr.heap.size wr (wr.alloc (ndO 7 s z 1 cc t)) := (Below.refl _ _).alloc (Nat.le_refl _) _
        have HA := Lib.hid hA
        have B0 := Lib.hid (NdBox.new wr 7 s z 1 cc t)
        have hrw := hk.below hA
        obtain ⟨B1, o1, rfl, hat0, hrw⟩ := hrw
        have hbnd := hlx
        rw [hst] at hjt hbnd
        simp only [List.length_append, List.length_cons, List.length_nil] at hbnd
        have C0 : Hid (∀ W y c, NdRow W ok l y → Calls Tryz.prog 99 #[.slice y l.length c] W fun e w' => e = .returned (.string ⟨(joinC (ex0s l)).toArray⟩) ∧ Below W.heap.size W w') := fun W y c hr =>
          (hmem (.mk 8 [] l q) (by show _ ∈ ([.mk 8 [] l q] : List Nd); simp)).2.1 hl ok y c W hr (by show (joinC (ex0s l)).length ≤ _; omega)
        obtain ⟨Y0, hY0⟩ : ∃ Y, joinC (ex0s l) = Y := ⟨_, rfl⟩
        rw [hY0] at C0 hjt hbnd
        clear hY0 hst hlx
        obtain ⟨A0, hA0⟩ : ∃ A, S0 ++ s = A := ⟨_, rfl⟩
        have lA0 : A0.length = S0.length + (s : List UInt8).length := by rw [← hA0, List.length_append]
        try simp only [List.length_cons, List.length_nil] at lA0
        have fA0 : ∀ W, (Op.stringOp .add ⟨S0.toArray⟩ ⟨s.toArray⟩).run Tryz.prog W = .ok (.string ⟨A0.toArray⟩) W := cat_run S0 s _ hA0.symm (by (try simp only [List.length_cons, List.length_nil]); omega)
        obtain ⟨A1, hA1⟩ : ∃ A, A0 ++ [40] = A := ⟨_, rfl⟩
        have lA1 : A1.length = A0.length + ([40] : List UInt8).length := by rw [← hA1, List.length_append]
        try simp only [List.length_cons, List.length_nil] at lA1
        have fA1 : ∀ W, (Op.stringOp .add ⟨A0.toArray⟩ ⟨#[40]⟩).run Tryz.prog W = .ok (.string ⟨A1.toArray⟩) W := cat_run A0 [40] _ hA1.symm (by (try simp only [List.length_cons, List.length_nil]); omega)
        obtain ⟨A2, hA2⟩ : ∃ A, A1 ++ Y0 = A := ⟨_, rfl⟩
        have lA2 : A2.length = A1.length + (Y0 : List UInt8).length := by rw [← hA2, List.length_append]
        try simp only [List.length_cons, List.length_nil] at lA2
        have fA2 : ∀ W, (Op.stringOp .add ⟨A1.toArray⟩ ⟨Y0.toArray⟩).run Tryz.prog W = .ok (.string ⟨A2.toArray⟩) W := cat_run A1 Y0 _ hA2.symm (by (try simp only [List.length_cons, List.length_nil]); omega)
        obtain ⟨A3, hA3⟩ : ∃ A, A2 ++ [41] = A := ⟨_, rfl⟩
        have lA3 : A3.length = A2.length + ([41] : List UInt8).length := by rw [← hA3, List.length_append]
        try simp only [List.length_cons, List.length_nil] at lA3
        have fA3 : ∀ W, (Op.stringOp .add ⟨A2.toArray⟩ ⟨#[41]⟩).run Tryz.prog W = .ok (.string ⟨A3.toArray⟩) W := cat_run A2 [41] _ hA3.symm (by (try simp only [List.length_cons, List.length_nil]); omega)
        obtain ⟨A4, hA4⟩ : ∃ A, A3 ++ [59] = A := ⟨_, rfl⟩
        have lA4 : A4.length = A3.length + ([59] : List UInt8).length := by rw [← hA4, List.length_append]
        try simp only [List.length_cons, List.length_nil] at lA4
        have fA4 : ∀ W, (Op.stringOp .add ⟨A3.toArray⟩ ⟨#[59]⟩).run Tryz.prog W = .ok (.string ⟨A4.toArray⟩) W := cat_run A3 [59] _ hA4.symm (by (try simp only [List.length_cons, List.length_nil]); omega)
        obtain ⟨A5, hA5⟩ : ∃ A, A4 ++ [10] = A := ⟨_, rfl⟩
        have lA5 : A5.length = A4.length + ([10] : List UInt8).length := by rw [← hA5, List.length_append]
        try simp only [List.length_cons, List.length_nil] at lA5
        have fA5 : ∀ W, (Op.stringOp .add ⟨A4.toArray⟩ ⟨#[10]⟩).run Tryz.prog W = .ok (.string ⟨A5.toArray⟩) W := cat_run A4 [10] _ hA5.symm (by (try simp only [List.length_cons, List.length_nil]); omega)
        have HJ : Hid (stsT (l0.take (i + 1)) pad = A5) := by
          show _ = _
          rw [hjt, ← hA5, ← hA4, ← hA3, ← hA2, ← hA1, ← hA0, ← hS0]
          simp only [List.append_assoc]
          try rfl
        clear hA0 lA0 hA1 lA1 hA2 lA2 hA3 lA3 hA4 lA4 hA5 lA5 hjt hbnd hS0 lS0 hmem
        have HAT0 := Lib.hid hat0
        obtain ⟨k0, nm0, z0, m0, cc0, q0, e0, x00, x01, x02, x03, hk0⟩ := hat0.val
        cases e0
        have cE0 := fun d os => Calls.regrown_of (C0.out (grow (redrawn (wr.alloc (ndO 7 s (some ⟨B1, o1, none⟩) 1 cc t)) d) os) z0 cc0 (hk0.below (below_regrown _ d os)))
        obtain ⟨b0, b1, b2, b3⟩ := B0.out
        unfold ndO at cE0 HA B0 b0 b1 b2 b3 x00 x01 x02 x03 HAT0
        have rb1 := cell_regrown b1
        have rx02 := cell_regrown x02
        clear hk0 hat0  hok hk hrw hA hx0 C0
        go_wp2_with fail
        generalize wr.alloc (.cells #[.int .i64 7, .string ⟨s.toArray⟩, .slice (some ⟨B1, o1, none⟩) 1 cc, .int .i64 t] 53) = wA at *
        refine wp_region_quiet_below (by kernel_rfl) (by kernel_rfl) ?_
        repeat (go_big_quiet_step (first | with_reducible exact cE0 _ _))
        refine wpQuiet_nil ?_
        intro _ hw'
        obtain ⟨⟨dq, osq⟩, hw''⟩ := hw'
        subst hw''
        have hb3 := below_regrown wA dq osq
        generalize grow (redrawn wA dq) osq = w3 at *
        have HB3 := Lib.hid (HA.out.trans (hb3.mono HA.out.size))
        clear rb1 rx02 cE0 b0 b1 b2 b3 x00 x01 x02 x03 x0 x1 x2 x3
        clear hb3
        go_wp2_with fail
        go_roundw
        case rel => exact ⟨i + 1, by go_num, by omega, by rw [HJ.out], tr hbw HB3.out⟩
        case measure => simp [RowKit.intOf]; omega
      | callB s l q b r t hs hl hb =>
        have hmem := HKN.out _ (List.mem_of_getElem? hx0)
        have hst : stT (.mk 7 s [.mk 8 [] l q, .mk 0 [] b r] t) pad = s ++ [40] ++ (joinC (ex0s l)) ++ [41] ++ (blkR b pad) := by
          rw [stT]
          simp [rowT, grT, blk_at, blkR, List.append_assoc]
        obtain ⟨hok, x0, x1, x3, z, cc, x2, hk⟩ := hat
        have hA : Below wr.heap.size wr (wr.alloc (ndO 7 s z 2 cc t)) := (Below.refl _ _).alloc (Nat.le_refl _) _
        have HA := Lib.hid hA
        have B0 := Lib.hid (NdBox.new wr 7 s z 2 cc t)
        have hrw := hk.below hA
        obtain ⟨B1, o1, rfl, hat0, hrw⟩ := hrw
        obtain ⟨B', o', e', hat1, hrw⟩ := hrw
        cases e'
        have hbnd := hlx
        rw [hst] at hjt hbnd
        simp only [List.length_append, List.length_cons, List.length_nil] at hbnd
        have C0 : Hid (∀ W y c, NdRow W ok l y → Calls Tryz.prog 99 #[.slice y l.length c] W fun e w' => e = .returned (.string ⟨(joinC (ex0s l)).toArray⟩) ∧ Below W.heap.size W w') := fun W y c hr =>
          (hmem (.mk 8 [] l q) (by show _ ∈ ([.mk 8 [] l q, .mk 0 [] b r] : List Nd); simp)).2.1 hl ok y c W hr (by show (joinC (ex0s l)).length ≤ _; omega)
        obtain ⟨Y0, hY0⟩ : ∃ Y, joinC (ex0s l) = Y := ⟨_, rfl⟩
        rw [hY0] at C0 hjt hbnd
        have C1 : Hid (∀ W v, NdVal W ok (.mk 0 [] b r) v → Calls Tryz.prog 100 #[v, .string ⟨pad.toArray⟩] W fun e w' => e = .returned (.string ⟨(blkR b pad).toArray⟩) ∧ Below W.heap.size W w') := fun W v hv =>
          (hmem (.mk 0 [] b r) (by show _ ∈ ([.mk 8 [] l q, .mk 0 [] b r] : List Nd); simp)).2.2 hb ok _ v pad W hv (by show (blkR b pad).length ≤ _; omega)
        obtain ⟨Y1, hY1⟩ : ∃ Y, blkR b pad = Y := ⟨_, rfl⟩
        rw [hY1] at C1 hjt hbnd
        clear hY0 hY1 hst hlx
        obtain ⟨A0, hA0⟩ : ∃ A, S0 ++ s = A := ⟨_, rfl⟩
        have lA0 : A0.length = S0.length + (s : List UInt8).length := by rw [← hA0, List.length_append]
        try simp only [List.length_cons, List.length_nil] at lA0
        have fA0 : ∀ W, (Op.stringOp .add ⟨S0.toArray⟩ ⟨s.toArray⟩).run Tryz.prog W = .ok (.string ⟨A0.toArray⟩) W := cat_run S0 s _ hA0.symm (by (try simp only [List.length_cons, List.length_nil]); omega)
        obtain ⟨A1, hA1⟩ : ∃ A, A0 ++ [40] = A := ⟨_, rfl⟩
        have lA1 : A1.length = A0.length + ([40] : List UInt8).length := by rw [← hA1, List.length_append]
        try simp only [List.length_cons, List.length_nil] at lA1
        have fA1 : ∀ W, (Op.stringOp .add ⟨A0.toArray⟩ ⟨#[40]⟩).run Tryz.prog W = .ok (.string ⟨A1.toArray⟩) W := cat_run A0 [40] _ hA1.symm (by (try simp only [List.length_cons, List.length_nil]); omega)
        obtain ⟨A2, hA2⟩ : ∃ A, A1 ++ Y0 = A := ⟨_, rfl⟩
        have lA2 : A2.length = A1.length + (Y0 : List UInt8).length := by rw [← hA2, List.length_append]
        try simp only [List.length_cons, List.length_nil] at lA2
        have fA2 : ∀ W, (Op.stringOp .add ⟨A1.toArray⟩ ⟨Y0.toArray⟩).run Tryz.prog W = .ok (.string ⟨A2.toArray⟩) W := cat_run A1 Y0 _ hA2.symm (by (try simp only [List.length_cons, List.length_nil]); omega)
        obtain ⟨A3, hA3⟩ : ∃ A, A2 ++ [41] = A := ⟨_, rfl⟩
        have lA3 : A3.length = A2.length + ([41] : List UInt8).length := by rw [← hA3, List.length_append]
        try simp only [List.length_cons, List.length_nil] at lA3
        have fA3 : ∀ W, (Op.stringOp .add ⟨A2.toArray⟩ ⟨#[41]⟩).run Tryz.prog W = .ok (.string ⟨A3.toArray⟩) W := cat_run A2 [41] _ hA3.symm (by (try simp only [List.length_cons, List.length_nil]); omega)
        obtain ⟨A4, hA4⟩ : ∃ A, A3 ++ Y1 = A := ⟨_, rfl⟩
        have lA4 : A4.length = A3.length + (Y1 : List UInt8).length := by rw [← hA4, List.length_append]
        try simp only [List.length_cons, List.length_nil] at lA4
        have fA4 : ∀ W, (Op.stringOp .add ⟨A3.toArray⟩ ⟨Y1.toArray⟩).run Tryz.prog W = .ok (.string ⟨A4.toArray⟩) W := cat_run A3 Y1 _ hA4.symm (by (try simp only [List.length_cons, List.length_nil]); omega)
        obtain ⟨A5, hA5⟩ : ∃ A, A4 ++ [10] = A := ⟨_, rfl⟩
        have lA5 : A5.length = A4.length + ([10] : List UInt8).length := by rw [← hA5, List.length_append]
        try simp only [List.length_cons, List.length_nil] at lA5
        have fA5 : ∀ W, (Op.stringOp .add ⟨A4.toArray⟩ ⟨#[10]⟩).run Tryz.prog W = .ok (.string ⟨A5.toArray⟩) W := cat_run A4 [10] _ hA5.symm (by (try simp only [List.length_cons, List.length_nil]); omega)
        have HJ : Hid (stsT (l0.take (i + 1)) pad = A5) := by
          show _ = _
          rw [hjt, ← hA5, ← hA4, ← hA3, ← hA2, ← hA1, ← hA0, ← hS0]
          simp only [List.append_assoc]
          try rfl
        clear hA0 lA0 hA1 lA1 hA2 lA2 hA3 lA3 hA4 lA4 hA5 lA5 hjt hbnd hS0 lS0 hmem
        have HAT0 := Lib.hid hat0
        obtain ⟨k0, nm0, z0, m0, cc0, q0, e0, x00, x01, x02, x03, hk0⟩ := hat0.val
        have HAT1 := Lib.hid hat1
        obtain ⟨k1, nm1, z1, m1, cc1, q1, e1, x10, x11, x12, x13, hk1⟩ := hat1.val
        cases e0
        have cE0 := fun d os => Calls.regrown_of (C0.out (grow (redrawn (wr.alloc (ndO 7 s (some ⟨B1, o1, none⟩) 2 cc t)) d) os) z0 cc0 (hk0.below (below_regrown _ d os)))
        obtain ⟨b0, b1, b2, b3⟩ := B0.out
        unfold ndO at cE0 HA B0 b0 b1 b2 b3 x00 x01 x02 x03 x10 x11 x12 x13 HAT0 HAT1
        have rb1 := cell_regrown b1
        have rx02 := cell_regrown x02
        clear hk0 hat0 hk1 hat1 e1 hok hk hrw hA hx0 C0
        go_wp2_with fail
        generalize wr.alloc (.cells #[.int .i64 7, .string ⟨s.toArray⟩, .slice (some ⟨B1, o1, none⟩) 2 cc, .int .i64 t] 53) = wA at *
        refine wp_region_quiet_below (by kernel_rfl) (by kernel_rfl) ?_
        repeat (go_big_quiet_step (first | with_reducible exact cE0 _ _))
        refine wpQuiet_nil ?_
        intro _ hw'
        obtain ⟨⟨dq, osq⟩, hw''⟩ := hw'
        subst hw''
        have hb3 := below_regrown wA dq osq
        generalize grow (redrawn wA dq) osq = w3 at *
        have HB3 := Lib.hid (HA.out.trans (hb3.mono HA.out.size))
        clear rb1 rx02 cE0 b0 b1 b2 b3 x00 x01 x02 x03 x10 x11 x12 x13 x0 x1 x2 x3
        obtain ⟨u1, nn1, v1, mm1, dd1, qq1, ee1, y10, y11, y12, y13, hh1⟩ := (HAT1.out.mono_below hb3).val
        have c1 := C1.out w3 (.agg #[.int .i64 u1, .string ⟨nn1.toArray⟩, .slice v1 mm1.length dd1, .int .i64 qq1]) (by rw [ee1]; exact ⟨v1, dd1, rfl, hh1⟩)
        clear hh1 ee1 C1 hb3
        go_wp2_with fail
        refine c1.mono ?_
        clear c1
        rintro e w4 ⟨rfl, hb4⟩
        have HB4 := Lib.hid (HB3.out.trans (hb4.mono HB3.out.size))
        clear hb4 y10 y11 y12 y13
        go_wp2_with fail
        go_roundw
        case rel => exact ⟨i + 1, by go_num, by omega, by rw [HJ.out], tr hbw HB4.out⟩
        case measure => simp [RowKit.intOf]; omega
    · have hjx : Hid (stsT (l0.take i) pad = X) := by
        show _ = _
        rw [← HX.out, List.take_of_length_le (by have := HN.out; omega)]
      have hlt' : ¬ (i : Int) < (n : Int) := by omega
      rw [hjx.out]
      go_wp2_with fail
      go_ret
      exact ⟨rfl, hbw⟩
end Go.Proofs.YtpbkeamjdolpgaaGreatDoor
