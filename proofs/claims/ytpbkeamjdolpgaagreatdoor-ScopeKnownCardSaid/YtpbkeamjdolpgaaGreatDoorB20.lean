/- What is known of errors.errorType. The statements' Text: an error's text. The walk of the printer's expr: names, numbers. The walk of the printer's expr: choices. The walk of the printer's expr: parts. The walk of the printer's expr: signs before. The walk of the printer's expr: comparisons. -/
import Derived.Test.YtpbkeamjdolpgaaGreatDoorB19
import Derived.Test.YtpbkeamjdolpgaaGreatDoorShelfI
import Derived.StillTailTactics
namespace Go.Proofs.YtpbkeamjdolpgaaGreatDoor
open Go.RowKit Go.Lib

/-- What is known of errors.errorType. -/
def GlE (w : World) : Prop := w.cell? ⟨0, 0, none⟩ = some (.iface 187 (.agg #[.pointer (some ⟨10, 36, none⟩)]))
theorem GlE.below {w w' : World} (h : GlE w) (hb : Below w.heap.size w w') : GlE w' := by
  unfold GlE at h ⊢
  rw [hb.cell (World.block_lt_of_cell? w _ h)]
  exact h
end Go.Proofs.YtpbkeamjdolpgaaGreatDoor
namespace Go.Proofs.YtpbkeamjdolpgaaGreatDoor
open Go.RowKit Go.Lib Go.Shelf Go.Sort

/-- What is known of the listed variables, the powers of ten too. -/
def GlT (w : World) : Prop := Gl w ∧ GlE w ∧ Lib.TabIs Tryz.prog w "internal/strconv.uint64pow10" .u64 Lib.pow10Tab
theorem GlT.below {w w' : World} (h : GlT w) (hb : Below w.heap.size w w') : GlT w' := ⟨h.1.below hb, h.2.1.below hb, TabIs_below (g := 7) (by kernel_rfl) h.2.2 hb⟩
theorem itoa_any (n : Int) (h0 : -9223372036854775808 ≤ n) (h1 : n ≤ 9223372036854775807) (w : World) (hG : GlT w) :
    Calls Tryz.prog 128 #[.int .i64 n] w fun e w' => e = .returned (.string ⟨(Lib.itoa n).toArray⟩) ∧ Below w.heap.size w w' := by
  refine (Tryz.strconv_Itoa n h0 h1 w hG.2.2).mono ?_
  rintro e w' ⟨h, k, os, rfl⟩
  exact ⟨h, below_regrown w (w.drawn + k) os⟩
def errT (n : Int) : List UInt8 := [101, 114, 114, 111, 114, 32] ++ Lib.itoa n
def fltT (f : FlI) : List UInt8 := Lib.itoa f.2.1 ++ [58, 32] ++ errT f.1 ++ [58, 32] ++ f.2.2
set_option maxHeartbeats 4000000 in
set_option maxRecDepth 100000 in
theorem errno_text (n : Int) (h0 : -9223372036854775808 ≤ n) (h1 : n ≤ 9223372036854775807) (hl : (Lib.itoa n).length ≤ 1000) (w : World) (hG : GlT w) :
    Calls Tryz.prog 69 #[.int .i64 n] w fun e w' => e = .returned (.string ⟨(errT n).toArray⟩) ∧ Below w.heap.size w w' := by
  have c0 := itoa_any n h0 h1 w hG
  have f1 : ∀ W, (Op.stringOp .add ⟨#[101, 114, 114, 111, 114, 32]⟩ ⟨(Lib.itoa n).toArray⟩).run Tryz.prog W = .ok (.string ⟨(errT n).toArray⟩) W := cat_run [101, 114, 114, 111, 114, 32] _ _ rfl (by simp; omega)
  obtain ⟨X, hX⟩ : ∃ X, errT n = X := ⟨_, rfl⟩
  obtain ⟨Y, hY⟩ : ∃ Y, Lib.itoa n = Y := ⟨_, rfl⟩
  rw [hX] at f1 ⊢
  rw [hY] at f1 c0
  clear hX hY hl hG h0 h1
  go_enter Tryz.func69, Tryz.ntmps69
  go_wp2_with fail
  refine c0.mono ?_
  clear c0
  rintro e w1 ⟨rfl, hb⟩
  go_wp2_with fail
  go_ret
  exact ⟨rfl, hb⟩
set_option maxHeartbeats 4000000 in
set_option maxRecDepth 100000 in
theorem fault_text (c : Nat) (p : Int) (T : List UInt8) (hc0 : -9223372036854775808 ≤ (c : Int)) (hc1 : (c : Int) ≤ 9223372036854775807) (hp0 : -9223372036854775808 ≤ p) (hp1 : p ≤ 9223372036854775807) (hlc : (Lib.itoa c).length ≤ 1000) (hlp : (Lib.itoa p).length ≤ 1000) (hlT : T.length ≤ 2 ^ 50)
    (b : Nat) (w : World) (hG : GlT w) (h : w.heap[b]? = some (.cells #[.int .i64 c, .int .i64 p, .string ⟨T.toArray⟩] 61 (0, 0))) :
    Calls Tryz.prog 68 #[.pointer (some ⟨b, 0, none⟩)] w fun e w' => e = .returned (.string ⟨(fltT (c, p, T)).toArray⟩) ∧ Below w.heap.size w w' := by
  have x0 : w.cell? ⟨b, 0, none⟩ = some (.int .i64 c) := by simp [World.cell?, h]
  have x1 : w.cell? ⟨b, 1, none⟩ = some (.int .i64 p) := by simp [World.cell?, h]
  have x2 : w.cell? ⟨b, 2, none⟩ = some (.string ⟨T.toArray⟩) := by simp [World.cell?, h]
  have c1 := fun d os => Calls.regrown_of (itoa_any p hp0 hp1 _ (hG.below (below_regrown w d os)))
  have c2 := fun d os => Calls.regrown_of (errno_text c hc0 hc1 hlc _ (hG.below (below_regrown w d os)))
  have hle : (errT c).length ≤ 1006 := by unfold errT; simp; omega
  obtain ⟨Y, hY⟩ : ∃ Y, Lib.itoa p = Y := ⟨_, rfl⟩
  obtain ⟨Z, hZ⟩ : ∃ Z, errT c = Z := ⟨_, rfl⟩
  have hX : fltT (c, p, T) = Y ++ [58, 32] ++ Z ++ [58, 32] ++ T := by rw [← hY, ← hZ]; rfl
  obtain ⟨A1, h1⟩ : ∃ A, A = Y ++ [58, 32] := ⟨_, rfl⟩
  obtain ⟨A2, h2⟩ : ∃ A, A = A1 ++ Z := ⟨_, rfl⟩
  obtain ⟨A3, h3⟩ : ∃ A, A = A2 ++ [58, 32] := ⟨_, rfl⟩
  obtain ⟨A4, h4⟩ : ∃ A, A = A3 ++ T := ⟨_, rfl⟩
  have hX4 : fltT (c, p, T) = A4 := by rw [hX, h4, h3, h2, h1]
  rw [hY] at c1 hlp
  rw [hZ] at c2 hle
  have l1 : A1.length ≤ 2000 := by rw [h1]; simp; omega
  have l2 : A2.length ≤ 4000 := by rw [h2]; simp; omega
  have l3 : A3.length ≤ 5000 := by rw [h3]; simp; omega
  have f1 : ∀ W, (Op.stringOp .add ⟨Y.toArray⟩ ⟨#[58, 32]⟩).run Tryz.prog W = .ok (.string ⟨A1.toArray⟩) W := cat_run Y [58, 32] A1 h1 (by simp; omega)
  have f2 : ∀ W, (Op.stringOp .add ⟨A1.toArray⟩ ⟨Z.toArray⟩).run Tryz.prog W = .ok (.string ⟨A2.toArray⟩) W := cat_run A1 Z A2 h2 (by omega)
  have f3 : ∀ W, (Op.stringOp .add ⟨A2.toArray⟩ ⟨#[58, 32]⟩).run Tryz.prog W = .ok (.string ⟨A3.toArray⟩) W := cat_run A2 [58, 32] A3 h3 (by simp; omega)
  have f4 : ∀ W, (Op.stringOp .add ⟨A3.toArray⟩ ⟨T.toArray⟩).run Tryz.prog W = .ok (.string ⟨A4.toArray⟩) W := cat_run A3 T A4 h4 (by omega)
  rw [hX4]
  have y0 := cell_regrown x0
  have y1 := cell_regrown x1
  have y2 := cell_regrown x2
  clear hX4 hX hY hZ h1 h2 h3 h4 l1 l2 l3 hle hlp hlc hlT h hG x0 x1 x2 hc0 hc1 hp0 hp1
  go_enter Tryz.func68, Tryz.ntmps68
  go_wp2_with fail
  refine wp_region_quiet_below (by kernel_rfl) (by kernel_rfl) ?_
  repeat (go_big_quiet_step (first | exact c1 _ _ | exact c2 _ _))
  refine wpQuiet_nil ?_
  intro _ hw'
  obtain ⟨⟨dq, osq⟩, hw''⟩ := hw'
  subst hw''
  have hb2 := below_regrown w dq osq
  generalize grow (redrawn w dq) osq = w2 at *
  clear c1 c2 y0 y1 y2
  go_wp2_with fail
  go_ret
  exact ⟨rfl, hb2⟩
set_option maxHeartbeats 4000000 in
set_option maxRecDepth 100000 in
/-- A fault's text. -/
theorem text_any (c : Nat) (p : Int) (T : List UInt8) (hc0 : -9223372036854775808 ≤ (c : Int)) (hc1 : (c : Int) ≤ 9223372036854775807) (hp0 : -9223372036854775808 ≤ p) (hp1 : p ≤ 9223372036854775807) (hlc : (Lib.itoa c).length ≤ 1000) (hlp : (Lib.itoa p).length ≤ 1000) (hlT : T.length ≤ 2 ^ 50)
    (b : Nat) (w : World) (hG : GlT w) (h : w.heap[b]? = some (.cells #[.int .i64 c, .int .i64 p, .string ⟨T.toArray⟩] 61 (0, 0))) :
    Calls Tryz.prog 33 #[.iface 23 (.pointer (some ⟨b, 0, none⟩))] w fun e w' => e = .returned (.string ⟨(fltT (c, p, T)).toArray⟩) ∧ Below w.heap.size w w' := by
  have hb0 : Below w.heap.size w (w.alloc (.cells #[.pointer none] 23)) := (Below.refl _ _).alloc (Nat.le_refl _) _
  have hlt : b < w.heap.size := (Array.getElem?_eq_some_iff.1 h).1
  have cA := as_hit2 ⟨b, 0, none⟩ ⟨w.heap.size, 0, none⟩ (.pointer none) (w.alloc (.cells #[.pointer none] 23)) (hG.2.1.below hb0) (by simp) (by simp)
  have C : Hid (∀ w3, Below w.heap.size w w3 → Calls Tryz.prog 68 #[.pointer (some ⟨b, 0, none⟩)] w3 fun e w' => e = .returned (.string ⟨(fltT (c, p, T)).toArray⟩) ∧ Below w3.heap.size w3 w') := fun w3 hb =>
    fault_text c p T hc0 hc1 hp0 hp1 hlc hlp hlT b w3 (hG.below hb) ((hb.block b hlt).trans h)
  obtain ⟨X, hX⟩ : ∃ X, fltT (c, p, T) = X := ⟨_, rfl⟩
  rw [hX] at C ⊢
  have HB := Lib.hid hb0
  clear h hG hlt hX hb0 hc0 hc1 hp0 hp1 hlc hlp hlT
  go_enter Tryz.func33, Tryz.ntmps33
  go_wp2_with fail
  refine cA.mono ?_
  clear cA
  rintro e w3 ⟨rfl, ha1, ha2, ha3⟩
  have C2 := C.out w3 (HB.out.trans ha1)
  have HB3 := Lib.hid (HB.out.trans ha1)
  clear ha1 ha3 C
  go_wp2_with fail
  refine C2.mono ?_
  clear C2
  rintro e w4 ⟨rfl, hb4⟩
  go_wp2_with fail
  go_ret
  exact ⟨rfl, tr HB3.out hb4⟩
end Go.Proofs.YtpbkeamjdolpgaaGreatDoor
namespace Go.Proofs.YtpbkeamjdolpgaaGreatDoor
open Go.RowKit Go.Lib Go.Shelf Go.Sort

set_option maxHeartbeats 4000000 in
set_option maxRecDepth 100000 in
theorem ex_leaf (k : Int) (n : List UInt8) (kids : List Nd) (p : Int) (hkl : kids.length < 2 ^ 62) (h11 : k ≠ 11) (h12 : k ≠ 12) (h13 : k ≠ 13) (h14 : k ≠ 14) (h15 : k ≠ 15) : ExP (.mk k n kids p) := by
  intro b l g w v a hP hv ha hlen
  obtain ⟨y, c, rfl, hrow⟩ := hv
  have hA : ∀ o, Below w.heap.size w (w.alloc o) := fun o => (Below.refl _ _).alloc (Nat.le_refl _) _
  have S0 : ExS b g w kids w.heap.size k n y c p l g (w.alloc (ndO k n y kids.length c p)) := ⟨hP.below (hA _), PrOw.of_below (hA _), Box4.new w _ _ _ _, hrow.below (hA _), by have := hP.lt; omega, fun e => by have := hP.buf e.symm; omega⟩
  have C : Hid (∀ W, Below (w.alloc (ndO k n y kids.length c p)).heap.size (w.alloc (ndO k n y kids.length c p)) W → Calls Tryz.prog 151 #[.agg #[.int .i64 k, .string ⟨n.toArray⟩, .slice y kids.length c, .int .i64 p]] W fun e w' => e = .returned (.int .i64 (tightR (.mk k n kids p))) ∧ Below W.heap.size W w') := fun W hb =>
    tight_any (fun k => k < b) (.mk k n kids p) hkl _ W ⟨y, c, rfl, S0.row.below hb⟩
  have HS0 := Lib.hid S0
  have HLEN := Lib.hid hlen
  have HAA := Lib.hid ha
  have HX : Hid (exT (.mk k n kids p) a = parT (decide (tightR (.mk k n kids p) < a)) (bodyT k n (exTs kids (asksR k (tightR (.mk k n kids p)) kids.length)) (ex0s kids) (grT kids))) := by
    show _ = _
    rw [exT]
  obtain ⟨T, hT⟩ : ∃ T, tightR (.mk k n kids p) = T := ⟨_, rfl⟩
  obtain ⟨B, hB⟩ : ∃ B, bodyT k n (exTs kids (asksR k T kids.length)) (ex0s kids) (grT kids) = B := ⟨_, rfl⟩
  obtain ⟨X, hX⟩ : ∃ X, exT (.mk k n kids p) a = X := ⟨_, rfl⟩
  rw [hT] at C HX
  rw [hB] at HX
  rw [hX] at HX HLEN ⊢
  have HT := Lib.hid hT
  have HB := Lib.hid hB
  clear hlen ha hT hB hX hA hrow hP S0 
  unfold ndO at C HS0
  go_enter_defers Tryz.func95, Tryz.ntmps95
  go_wp2_with fail
  generalize w.alloc (.cells #[.int .i64 k, .string ⟨n.toArray⟩, .slice y kids.length c, .int .i64 p] 53) = wA at *
  generalize hbx : w.heap.size = bx at *
  obtain ⟨x0, x1, x2, x3, _⟩ := HS0.out.box.facts
  have y0 := cell_regrown x0
  have y1 := cell_regrown x1
  have y2 := cell_regrown x2
  have y3 := cell_regrown x3
  have cE := fun d os => Calls.regrown_of (C.out _ (below_regrown wA d os))
  clear hbx C
  refine wp_region_quiet_below (by kernel_rfl) (by kernel_rfl) ?_
  repeat (go_big_quiet_step (exact cE _ _))
  refine wpQuiet_nil ?_
  intro _ hw'
  obtain ⟨⟨dq, osq⟩, hw''⟩ := hw'
  subst hw''
  have hb2 := below_regrown wA dq osq
  generalize grow (redrawn wA dq) osq = w2 at *
  have HS2 : Hid (ExS b g w kids bx k n y c p l g w2) := ⟨HS0.out.st.below hb2, HS0.out.ow.below hb2, Box4.below HS0.out.box hb2, HS0.out.row.below hb2, HS0.out.ne, HS0.out.hg⟩
  clear y0 y1 y2 y3 cE x0 x1 x2 x3 hb2 HS0
  have HBB : Hid (B = n) := by
    have := HB.out
    unfold bodyT at this
    rw [if_neg h11, if_neg h13, if_neg (by omega)] at this
    exact this.symm
  have q11 : (k == 11) = false := beq_eq_false_iff_ne.2 h11
  have q12 : (k == 12) = false := beq_eq_false_iff_ne.2 h12
  have q13 : (k == 13) = false := beq_eq_false_iff_ne.2 h13
  have q14 : (k == 14) = false := beq_eq_false_iff_ne.2 h14
  have q15 : (k == 15) = false := beq_eq_false_iff_ne.2 h15
  clear HB h11 h12 h13 h14 h15
  by_cases hq : T < a
  · have Q : decide (T < a) = true := decide_eq_true hq
    have HX2 : Hid (X = [40] ++ B ++ [41]) := by
      have := HX.out
      rw [decide_eq_true hq] at this
      exact this
    have HL2 : Hid (l.length + ([40] ++ B ++ [41]).length ≤ 2 ^ 46) := by
      have := HLEN.out
      rw [HX2.out] at this
      exact this
    clear hq HX HLEN
    go_wp2_with fail
    refine (write_any b l [40] _ _ HS2.out.st (by have := HL2.out; simp at this ⊢; omega)).mono ?_
    rintro e v0 ⟨rfl, g0, hp, ho⟩
    have HV0 := Lib.hid (HS2.out.step hp ho)
    clear hp ho HS2
    obtain ⟨x0, x1, x2, x3, _⟩ := HV0.out.box.facts
    go_wp2_with fail
    have HD1 := Lib.hid (HV0.out.drew)
    clear HV0
    go_still_tail 5, (by kernel_rfl)
    change wpList _ _ _ _ _ (World.drew v0)
    generalize World.drew v0 = d1 at *
    go_wp2_with fail
    refine (write_any b (l ++ [40]) n _ _ HD1.out.st (by rw [HBB.out] at HL2; have := HL2.out; simp at this ⊢; omega)).mono ?_
    rintro e v1 ⟨rfl, g1, hp, ho⟩
    have HV1 := Lib.hid (HD1.out.step hp ho)
    clear hp ho HD1
    go_wp2_with fail
    refine ex_out_par HV1.out.st HV1.out.ow (by rw [HBB.out] at HX2 HL2; rw [HX2.out]; try simp [List.append_assoc]) (by rw [HBB.out] at HX2 HL2; have := HL2.out; simp at this ⊢; omega)
  · have Q : decide (T < a) = false := decide_eq_false hq
    have HX2 : Hid (X = B) := by
      have := HX.out
      rw [decide_eq_false hq] at this
      exact this
    have HL2 : Hid (l.length + B.length ≤ 2 ^ 46) := by
      have := HLEN.out
      rw [HX2.out] at this
      exact this
    clear hq HX HLEN
    obtain ⟨x0, x1, x2, x3, _⟩ := HS2.out.box.facts
    go_wp2_with fail
    have HD1 := Lib.hid (HS2.out.drew)
    clear HS2
    go_still_tail 5, (by kernel_rfl)
    change wpList _ _ _ _ _ (World.drew w2)
    generalize World.drew w2 = d1 at *
    go_wp2_with fail
    refine (write_any b l n _ _ HD1.out.st (by rw [HBB.out] at HL2; have := HL2.out; simp at this ⊢; omega)).mono ?_
    rintro e v1 ⟨rfl, g1, hp, ho⟩
    have HV1 := Lib.hid (HD1.out.step hp ho)
    clear hp ho HD1
    go_wp2_with fail
    refine ex_out HV1.out.st HV1.out.ow (by rw [HBB.out] at HX2; rw [HX2.out]; try simp [List.append_assoc])
end Go.Proofs.YtpbkeamjdolpgaaGreatDoor
namespace Go.Proofs.YtpbkeamjdolpgaaGreatDoor
open Go.RowKit Go.Lib Go.Shelf Go.Sort

set_option maxHeartbeats 4000000 in
set_option maxRecDepth 100000 in
theorem ex_15 (n : List UInt8) (p : Int) (k1 : Int) (n1 : List UInt8) (m1 : List Nd) (p1 : Int) (E1 : Hid (ExP (.mk k1 n1 m1 p1))) (k2 : Int) (n2 : List UInt8) (m2 : List Nd) (p2 : Int) (E2 : Hid (ExP (.mk k2 n2 m2 p2))) (k3 : Int) (n3 : List UInt8) (m3 : List Nd) (p3 : Int) (E3 : Hid (ExP (.mk k3 n3 m3 p3)))  (kids : List Nd) (hks : kids = [.mk k1 n1 m1 p1, .mk k2 n2 m2 p2, .mk k3 n3 m3 p3]) : ExP (.mk 15 n kids p) := by
  intro b l g w v a hP hv ha hlen
  obtain ⟨y, c, rfl, hrow⟩ := hv
  obtain ⟨kb, ko, rfl, _⟩ := hrow.at_ (i := 0) (x := .mk k1 n1 m1 p1) (by rw [hks]; rfl)
  have hm : kids.length = 3 := by rw [hks]; rfl
  have hkl : (Nd.mk 15 n kids p).kids.length < 2 ^ 62 := by show kids.length < _; omega
  have hg1 : Hid (kids[0]? = some (.mk k1 n1 m1 p1)) := by
    show _ = _
    rw [hks]; rfl
  have hg2 : Hid (kids[1]? = some (.mk k2 n2 m2 p2)) := by
    show _ = _
    rw [hks]; rfl
  have hg3 : Hid (kids[2]? = some (.mk k3 n3 m3 p3)) := by
    show _ = _
    rw [hks]; rfl
  have HM := Lib.hid hm
  have HKS := Lib.hid hks
  have hA : ∀ o, Below w.heap.size w (w.alloc o) := fun o => (Below.refl _ _).alloc (Nat.le_refl _) _
  have S0 : ExS b g w kids w.heap.size 15 n (some ⟨kb, ko, none⟩) c p l g (w.alloc (ndO 15 n (some ⟨kb, ko, none⟩) kids.length c p)) := ⟨hP.below (hA _), PrOw.of_below (hA _), Box4.new w _ _ _ _, hrow.below (hA _), by have := hP.lt; omega, fun e => by have := hP.buf e.symm; omega⟩
  have C : Hid (∀ W, Below (w.alloc (ndO 15 n (some ⟨kb, ko, none⟩) kids.length c p)).heap.size (w.alloc (ndO 15 n (some ⟨kb, ko, none⟩) kids.length c p)) W → Calls Tryz.prog 151 #[.agg #[.int .i64 15, .string ⟨n.toArray⟩, .slice (some ⟨kb, ko, none⟩) kids.length c, .int .i64 p]] W fun e w' => e = .returned (.int .i64 (tightR (.mk 15 n kids p))) ∧ Below W.heap.size W w') := fun W hb =>
    tight_any (fun k => k < b) (.mk 15 n kids p) hkl _ W ⟨some ⟨kb, ko, none⟩, c, rfl, S0.row.below hb⟩
  have HS0 := Lib.hid S0
  have HLEN := Lib.hid hlen
  have HAA := Lib.hid ha
  have HX : Hid (exT (.mk 15 n kids p) a = parT (decide (tightR (.mk 15 n kids p) < a)) (bodyT 15 n (exTs kids (asksR 15 (tightR (.mk 15 n kids p)) kids.length)) (ex0s kids) (grT kids))) := by
    show _ = _
    rw [exT]
  obtain ⟨T, hT⟩ : ∃ T, tightR (.mk 15 n kids p) = T := ⟨_, rfl⟩
  obtain ⟨B, hB⟩ : ∃ B, bodyT 15 n (exTs kids (asksR 15 T kids.length)) (ex0s kids) (grT kids) = B := ⟨_, rfl⟩
  obtain ⟨X, hX⟩ : ∃ X, exT (.mk 15 n kids p) a = X := ⟨_, rfl⟩
  rw [hT] at C HX
  rw [hB] at HX
  rw [hX] at HX HLEN ⊢
  have HT := Lib.hid hT
  have HB := Lib.hid hB
  clear hlen ha hT hB hX hA hP S0 hm hks hkl 
  unfold ndO at C HS0
  generalize c.val = c at C HS0 ⊢
  rw [HM.out] at C HS0 ⊢
  go_enter_defers Tryz.func95, Tryz.ntmps95
  go_wp2_with fail
  generalize w.alloc (.cells #[.int .i64 15, .string ⟨n.toArray⟩, .slice (some ⟨kb, ko, none⟩) 3 c, .int .i64 p] 53) = wA at *
  generalize hbx : w.heap.size = bx at *
  obtain ⟨x0, x1, x2, x3, _⟩ := HS0.out.box.facts
  rw [HM.out] at x2
  have y0 := cell_regrown x0
  have y1 := cell_regrown x1
  have y2 := cell_regrown x2
  have y3 := cell_regrown x3
  have cE := fun d os => Calls.regrown_of (C.out _ (below_regrown wA d os))
  clear hbx C
  refine wp_region_quiet_below (by kernel_rfl) (by kernel_rfl) ?_
  repeat (go_big_quiet_step (exact cE _ _))
  refine wpQuiet_nil ?_
  intro _ hw'
  obtain ⟨⟨dq, osq⟩, hw''⟩ := hw'
  subst hw''
  have hb2 := below_regrown wA dq osq
  generalize grow (redrawn wA dq) osq = w2 at *
  have HS2 : Hid (ExS b g w kids bx 15 n (some ⟨kb, ko, none⟩) c p l g w2) := ⟨HS0.out.st.below hb2, HS0.out.ow.below hb2, Box4.below HS0.out.box hb2, HS0.out.row.below hb2, HS0.out.ne, HS0.out.hg⟩
  clear y0 y1 y2 y3 cE x0 x1 x2 x3 hb2 HS0
  have HBB : Hid (B = exT (.mk k1 n1 m1 p1) 1 ++ [32, 63, 32] ++ exT (.mk k2 n2 m2 p2) 0 ++ [32, 58, 32] ++ exT (.mk k3 n3 m3 p3) 0) := by
    show B = _
    rw [← HB.out, HKS.out]
    rfl
  clear HB
  by_cases hq : T < a
  · have Q : decide (T < a) = true := decide_eq_true hq
    have HX2 : Hid (X = [40] ++ B ++ [41]) := by
      have := HX.out
      rw [decide_eq_true hq] at this
      exact this
    have HL2 : Hid (l.length + ([40] ++ B ++ [41]).length ≤ 2 ^ 46) := by
      have := HLEN.out
      rw [HX2.out] at this
      exact this
    clear hq HX HLEN
    go_wp2_with fail
    refine (write_any b l [40] _ _ HS2.out.st (by have := HL2.out; simp at this ⊢; omega)).mono ?_
    rintro e v0 ⟨rfl, g0, hp, ho⟩
    have HV0 := Lib.hid (HS2.out.step hp ho)
    clear hp ho HS2
    obtain ⟨x0, x1, x2, x3, _⟩ := HV0.out.box.facts
    rw [HM.out] at x2
    obtain ⟨_, z0, z1, z3, ya, ca, z2, hra⟩ := HV0.out.row.get hg1.out
    simp only [Nat.zero_mul, Nat.add_zero] at z0 z1 z2 z3
    have HRA := Lib.hid hra
    clear hra
    go_wp2_with fail
    refine (E1.out b (l ++ [40]) _ _ _ (1) HV0.out.st ⟨ya, ca, rfl, HRA.out⟩ (by omega) (by rw [HBB.out] at HL2; have := HL2.out; simp at this ⊢; omega)).mono ?_
    clear z0 z1 z2 z3 HRA
    rintro e v10 ⟨rfl, g10, hp, ho⟩
    have HV10 := Lib.hid (HV0.out.step hp ho)
    clear hp ho HV0
    go_wp2_with fail
    refine (write_any b ((l ++ [40]) ++ exT (.mk k1 n1 m1 p1) 1) [32, 63, 32] _ _ HV10.out.st (by rw [HBB.out] at HL2; have := HL2.out; simp at this ⊢; omega)).mono ?_
    rintro e v11 ⟨rfl, g11, hp, ho⟩
    have HV11 := Lib.hid (HV10.out.step hp ho)
    clear hp ho HV10
    obtain ⟨_, z0, z1, z3, ya, ca, z2, hra⟩ := HV11.out.row.get hg2.out
    simp only [Nat.one_mul, Nat.reduceAdd, Nat.add_assoc] at z0 z1 z2 z3
    have HRA := Lib.hid hra
    clear hra
    go_wp2_with fail
    refine (E2.out b (((l ++ [40]) ++ exT (.mk k1 n1 m1 p1) 1) ++ [32, 63, 32]) _ _ _ (0) HV11.out.st ⟨ya, ca, rfl, HRA.out⟩ (by omega) (by rw [HBB.out] at HL2; have := HL2.out; simp at this ⊢; omega)).mono ?_
    clear z0 z1 z2 z3 HRA
    rintro e v12 ⟨rfl, g12, hp, ho⟩
    have HV12 := Lib.hid (HV11.out.step hp ho)
    clear hp ho HV11
    go_wp2_with fail
    refine (write_any b ((((l ++ [40]) ++ exT (.mk k1 n1 m1 p1) 1) ++ [32, 63, 32]) ++ exT (.mk k2 n2 m2 p2) 0) [32, 58, 32] _ _ HV12.out.st (by rw [HBB.out] at HL2; have := HL2.out; simp at this ⊢; omega)).mono ?_
    rintro e v13 ⟨rfl, g13, hp, ho⟩
    have HV13 := Lib.hid (HV12.out.step hp ho)
    clear hp ho HV12
    obtain ⟨_, z0, z1, z3, ya, ca, z2, hra⟩ := HV13.out.row.get hg3.out
    simp only [Nat.reduceMul, Nat.reduceAdd, Nat.add_assoc] at z0 z1 z2 z3
    have HRA := Lib.hid hra
    clear hra
    go_wp2_with fail
    refine (E3.out b (((((l ++ [40]) ++ exT (.mk k1 n1 m1 p1) 1) ++ [32, 63, 32]) ++ exT (.mk k2 n2 m2 p2) 0) ++ [32, 58, 32]) _ _ _ (0) HV13.out.st ⟨ya, ca, rfl, HRA.out⟩ (by omega) (by rw [HBB.out] at HL2; have := HL2.out; simp at this ⊢; omega)).mono ?_
    clear z0 z1 z2 z3 HRA
    rintro e v14 ⟨rfl, g14, hp, ho⟩
    have HV14 := Lib.hid (HV13.out.step hp ho)
    clear hp ho HV13
    go_wp2_with fail
    refine ex_out_par HV14.out.st HV14.out.ow (by rw [HBB.out] at HX2 HL2; rw [HX2.out]; try simp [List.append_assoc]) (by rw [HBB.out] at HX2 HL2; have := HL2.out; simp at this ⊢; omega)
  · have Q : decide (T < a) = false := decide_eq_false hq
    have HX2 : Hid (X = B) := by
      have := HX.out
      rw [decide_eq_false hq] at this
      exact this
    have HL2 : Hid (l.length + B.length ≤ 2 ^ 46) := by
      have := HLEN.out
      rw [HX2.out] at this
      exact this
    clear hq HX HLEN
    obtain ⟨x0, x1, x2, x3, _⟩ := HS2.out.box.facts
    rw [HM.out] at x2
    obtain ⟨_, z0, z1, z3, ya, ca, z2, hra⟩ := HS2.out.row.get hg1.out
    simp only [Nat.zero_mul, Nat.add_zero] at z0 z1 z2 z3
    have HRA := Lib.hid hra
    clear hra
    go_wp2_with fail
    refine (E1.out b l _ _ _ (1) HS2.out.st ⟨ya, ca, rfl, HRA.out⟩ (by omega) (by rw [HBB.out] at HL2; have := HL2.out; simp at this ⊢; omega)).mono ?_
    clear z0 z1 z2 z3 HRA
    rintro e v10 ⟨rfl, g10, hp, ho⟩
    have HV10 := Lib.hid (HS2.out.step hp ho)
    clear hp ho HS2
    go_wp2_with fail
    refine (write_any b (l ++ exT (.mk k1 n1 m1 p1) 1) [32, 63, 32] _ _ HV10.out.st (by rw [HBB.out] at HL2; have := HL2.out; simp at this ⊢; omega)).mono ?_
    rintro e v11 ⟨rfl, g11, hp, ho⟩
    have HV11 := Lib.hid (HV10.out.step hp ho)
    clear hp ho HV10
    obtain ⟨_, z0, z1, z3, ya, ca, z2, hra⟩ := HV11.out.row.get hg2.out
    simp only [Nat.one_mul, Nat.reduceAdd, Nat.add_assoc] at z0 z1 z2 z3
    have HRA := Lib.hid hra
    clear hra
    go_wp2_with fail
    refine (E2.out b ((l ++ exT (.mk k1 n1 m1 p1) 1) ++ [32, 63, 32]) _ _ _ (0) HV11.out.st ⟨ya, ca, rfl, HRA.out⟩ (by omega) (by rw [HBB.out] at HL2; have := HL2.out; simp at this ⊢; omega)).mono ?_
    clear z0 z1 z2 z3 HRA
    rintro e v12 ⟨rfl, g12, hp, ho⟩
    have HV12 := Lib.hid (HV11.out.step hp ho)
    clear hp ho HV11
    go_wp2_with fail
    refine (write_any b (((l ++ exT (.mk k1 n1 m1 p1) 1) ++ [32, 63, 32]) ++ exT (.mk k2 n2 m2 p2) 0) [32, 58, 32] _ _ HV12.out.st (by rw [HBB.out] at HL2; have := HL2.out; simp at this ⊢; omega)).mono ?_
    rintro e v13 ⟨rfl, g13, hp, ho⟩
    have HV13 := Lib.hid (HV12.out.step hp ho)
    clear hp ho HV12
    obtain ⟨_, z0, z1, z3, ya, ca, z2, hra⟩ := HV13.out.row.get hg3.out
    simp only [Nat.reduceMul, Nat.reduceAdd, Nat.add_assoc] at z0 z1 z2 z3
    have HRA := Lib.hid hra
    clear hra
    go_wp2_with fail
    refine (E3.out b ((((l ++ exT (.mk k1 n1 m1 p1) 1) ++ [32, 63, 32]) ++ exT (.mk k2 n2 m2 p2) 0) ++ [32, 58, 32]) _ _ _ (0) HV13.out.st ⟨ya, ca, rfl, HRA.out⟩ (by omega) (by rw [HBB.out] at HL2; have := HL2.out; simp at this ⊢; omega)).mono ?_
    clear z0 z1 z2 z3 HRA
    rintro e v14 ⟨rfl, g14, hp, ho⟩
    have HV14 := Lib.hid (HV13.out.step hp ho)
    clear hp ho HV13
    go_wp2_with fail
    refine ex_out HV14.out.st HV14.out.ow (by rw [HBB.out] at HX2; rw [HX2.out]; try simp [List.append_assoc])
end Go.Proofs.YtpbkeamjdolpgaaGreatDoor
namespace Go.Proofs.YtpbkeamjdolpgaaGreatDoor
open Go.RowKit Go.Lib Go.Shelf Go.Sort

set_option maxHeartbeats 4000000 in
set_option maxRecDepth 100000 in
theorem ex_14 (n : List UInt8) (p : Int) (k1 : Int) (n1 : List UInt8) (m1 : List Nd) (p1 : Int) (E1 : Hid (ExP (.mk k1 n1 m1 p1))) (k2 : Int) (n2 : List UInt8) (m2 : List Nd) (p2 : Int) (E2 : Hid (ExP (.mk k2 n2 m2 p2)))  (kids : List Nd) (hks : kids = [.mk k1 n1 m1 p1, .mk k2 n2 m2 p2]) : ExP (.mk 14 n kids p) := by
  intro b l g w v a hP hv ha hlen
  obtain ⟨y, c, rfl, hrow⟩ := hv
  obtain ⟨kb, ko, rfl, _⟩ := hrow.at_ (i := 0) (x := .mk k1 n1 m1 p1) (by rw [hks]; rfl)
  have hm : kids.length = 2 := by rw [hks]; rfl
  have hkl : (Nd.mk 14 n kids p).kids.length < 2 ^ 62 := by show kids.length < _; omega
  have hg1 : Hid (kids[0]? = some (.mk k1 n1 m1 p1)) := by
    show _ = _
    rw [hks]; rfl
  have hg2 : Hid (kids[1]? = some (.mk k2 n2 m2 p2)) := by
    show _ = _
    rw [hks]; rfl
  have HM := Lib.hid hm
  have HKS := Lib.hid hks
  have hA : ∀ o, Below w.heap.size w (w.alloc o) := fun o => (Below.refl _ _).alloc (Nat.le_refl _) _
  have S0 : ExS b g w kids w.heap.size 14 n (some ⟨kb, ko, none⟩) c p l g (w.alloc (ndO 14 n (some ⟨kb, ko, none⟩) kids.length c p)) := ⟨hP.below (hA _), PrOw.of_below (hA _), Box4.new w _ _ _ _, hrow.below (hA _), by have := hP.lt; omega, fun e => by have := hP.buf e.symm; omega⟩
  have C : Hid (∀ W, Below (w.alloc (ndO 14 n (some ⟨kb, ko, none⟩) kids.length c p)).heap.size (w.alloc (ndO 14 n (some ⟨kb, ko, none⟩) kids.length c p)) W → Calls Tryz.prog 151 #[.agg #[.int .i64 14, .string ⟨n.toArray⟩, .slice (some ⟨kb, ko, none⟩) kids.length c, .int .i64 p]] W fun e w' => e = .returned (.int .i64 (tightR (.mk 14 n kids p))) ∧ Below W.heap.size W w') := fun W hb =>
    tight_any (fun k => k < b) (.mk 14 n kids p) hkl _ W ⟨some ⟨kb, ko, none⟩, c, rfl, S0.row.below hb⟩
  have HS0 := Lib.hid S0
  have HLEN := Lib.hid hlen
  have HAA := Lib.hid ha
  have HX : Hid (exT (.mk 14 n kids p) a = parT (decide (tightR (.mk 14 n kids p) < a)) (bodyT 14 n (exTs kids (asksR 14 (tightR (.mk 14 n kids p)) kids.length)) (ex0s kids) (grT kids))) := by
    show _ = _
    rw [exT]
  obtain ⟨T, hT⟩ : ∃ T, tightR (.mk 14 n kids p) = T := ⟨_, rfl⟩
  obtain ⟨B, hB⟩ : ∃ B, bodyT 14 n (exTs kids (asksR 14 T kids.length)) (ex0s kids) (grT kids) = B := ⟨_, rfl⟩
  obtain ⟨X, hX⟩ : ∃ X, exT (.mk 14 n kids p) a = X := ⟨_, rfl⟩
  rw [hT] at C HX
  rw [hB] at HX
  rw [hX] at HX HLEN ⊢
  have HT := Lib.hid hT
  have HB := Lib.hid hB
  clear hlen ha hT hB hX hA hP S0 hm hks hkl 
  unfold ndO at C HS0
  generalize c.val = c at C HS0 ⊢
  rw [HM.out] at C HS0 ⊢
  go_enter_defers Tryz.func95, Tryz.ntmps95
  go_wp2_with fail
  generalize w.alloc (.cells #[.int .i64 14, .string ⟨n.toArray⟩, .slice (some ⟨kb, ko, none⟩) 2 c, .int .i64 p] 53) = wA at *
  generalize hbx : w.heap.size = bx at *
  obtain ⟨x0, x1, x2, x3, _⟩ := HS0.out.box.facts
  rw [HM.out] at x2
  have y0 := cell_regrown x0
  have y1 := cell_regrown x1
  have y2 := cell_regrown x2
  have y3 := cell_regrown x3
  have cE := fun d os => Calls.regrown_of (C.out _ (below_regrown wA d os))
  clear hbx C
  refine wp_region_quiet_below (by kernel_rfl) (by kernel_rfl) ?_
  repeat (go_big_quiet_step (exact cE _ _))
  refine wpQuiet_nil ?_
  intro _ hw'
  obtain ⟨⟨dq, osq⟩, hw''⟩ := hw'
  subst hw''
  have hb2 := below_regrown wA dq osq
  generalize grow (redrawn wA dq) osq = w2 at *
  have HS2 : Hid (ExS b g w kids bx 14 n (some ⟨kb, ko, none⟩) c p l g w2) := ⟨HS0.out.st.below hb2, HS0.out.ow.below hb2, Box4.below HS0.out.box hb2, HS0.out.row.below hb2, HS0.out.ne, HS0.out.hg⟩
  clear y0 y1 y2 y3 cE x0 x1 x2 x3 hb2 HS0
  have HBB : Hid (B = exT (.mk k1 n1 m1 p1) 7 ++ [91] ++ exT (.mk k2 n2 m2 p2) 0 ++ [93]) := by
    show B = _
    rw [← HB.out, HKS.out]
    rfl
  clear HB
  by_cases hq : T < a
  · have Q : decide (T < a) = true := decide_eq_true hq
    have HX2 : Hid (X = [40] ++ B ++ [41]) := by
      have := HX.out
      rw [decide_eq_true hq] at this
      exact this
    have HL2 : Hid (l.length + ([40] ++ B ++ [41]).length ≤ 2 ^ 46) := by
      have := HLEN.out
      rw [HX2.out] at this
      exact this
    clear hq HX HLEN
    go_wp2_with fail
    refine (write_any b l [40] _ _ HS2.out.st (by have := HL2.out; simp at this ⊢; omega)).mono ?_
    rintro e v0 ⟨rfl, g0, hp, ho⟩
    have HV0 := Lib.hid (HS2.out.step hp ho)
    clear hp ho HS2
    obtain ⟨x0, x1, x2, x3, _⟩ := HV0.out.box.facts
    rw [HM.out] at x2
    obtain ⟨_, z0, z1, z3, ya, ca, z2, hra⟩ := HV0.out.row.get hg1.out
    simp only [Nat.zero_mul, Nat.add_zero] at z0 z1 z2 z3
    have HRA := Lib.hid hra
    clear hra
    go_wp2_with fail
    refine (E1.out b (l ++ [40]) _ _ _ (7) HV0.out.st ⟨ya, ca, rfl, HRA.out⟩ (by omega) (by rw [HBB.out] at HL2; have := HL2.out; simp at this ⊢; omega)).mono ?_
    clear z0 z1 z2 z3 HRA
    rintro e v10 ⟨rfl, g10, hp, ho⟩
    have HV10 := Lib.hid (HV0.out.step hp ho)
    clear hp ho HV0
    go_wp2_with fail
    refine (write_any b ((l ++ [40]) ++ exT (.mk k1 n1 m1 p1) 7) [91] _ _ HV10.out.st (by rw [HBB.out] at HL2; have := HL2.out; simp at this ⊢; omega)).mono ?_
    rintro e v11 ⟨rfl, g11, hp, ho⟩
    have HV11 := Lib.hid (HV10.out.step hp ho)
    clear hp ho HV10
    obtain ⟨_, z0, z1, z3, ya, ca, z2, hra⟩ := HV11.out.row.get hg2.out
    simp only [Nat.one_mul, Nat.reduceAdd, Nat.add_assoc] at z0 z1 z2 z3
    have HRA := Lib.hid hra
    clear hra
    go_wp2_with fail
    refine (E2.out b (((l ++ [40]) ++ exT (.mk k1 n1 m1 p1) 7) ++ [91]) _ _ _ (0) HV11.out.st ⟨ya, ca, rfl, HRA.out⟩ (by omega) (by rw [HBB.out] at HL2; have := HL2.out; simp at this ⊢; omega)).mono ?_
    clear z0 z1 z2 z3 HRA
    rintro e v12 ⟨rfl, g12, hp, ho⟩
    have HV12 := Lib.hid (HV11.out.step hp ho)
    clear hp ho HV11
    go_wp2_with fail
    refine (write_any b ((((l ++ [40]) ++ exT (.mk k1 n1 m1 p1) 7) ++ [91]) ++ exT (.mk k2 n2 m2 p2) 0) [93] _ _ HV12.out.st (by rw [HBB.out] at HL2; have := HL2.out; simp at this ⊢; omega)).mono ?_
    rintro e v13 ⟨rfl, g13, hp, ho⟩
    have HV13 := Lib.hid (HV12.out.step hp ho)
    clear hp ho HV12
    go_wp2_with fail
    refine ex_out_par HV13.out.st HV13.out.ow (by rw [HBB.out] at HX2 HL2; rw [HX2.out]; try simp [List.append_assoc]) (by rw [HBB.out] at HX2 HL2; have := HL2.out; simp at this ⊢; omega)
  · have Q : decide (T < a) = false := decide_eq_false hq
    have HX2 : Hid (X = B) := by
      have := HX.out
      rw [decide_eq_false hq] at this
      exact this
    have HL2 : Hid (l.length + B.length ≤ 2 ^ 46) := by
      have := HLEN.out
      rw [HX2.out] at this
      exact this
    clear hq HX HLEN
    obtain ⟨x0, x1, x2, x3, _⟩ := HS2.out.box.facts
    rw [HM.out] at x2
    obtain ⟨_, z0, z1, z3, ya, ca, z2, hra⟩ := HS2.out.row.get hg1.out
    simp only [Nat.zero_mul, Nat.add_zero] at z0 z1 z2 z3
    have HRA := Lib.hid hra
    clear hra
    go_wp2_with fail
    refine (E1.out b l _ _ _ (7) HS2.out.st ⟨ya, ca, rfl, HRA.out⟩ (by omega) (by rw [HBB.out] at HL2; have := HL2.out; simp at this ⊢; omega)).mono ?_
    clear z0 z1 z2 z3 HRA
    rintro e v10 ⟨rfl, g10, hp, ho⟩
    have HV10 := Lib.hid (HS2.out.step hp ho)
    clear hp ho HS2
    go_wp2_with fail
    refine (write_any b (l ++ exT (.mk k1 n1 m1 p1) 7) [91] _ _ HV10.out.st (by rw [HBB.out] at HL2; have := HL2.out; simp at this ⊢; omega)).mono ?_
    rintro e v11 ⟨rfl, g11, hp, ho⟩
    have HV11 := Lib.hid (HV10.out.step hp ho)
    clear hp ho HV10
    obtain ⟨_, z0, z1, z3, ya, ca, z2, hra⟩ := HV11.out.row.get hg2.out
    simp only [Nat.one_mul, Nat.reduceAdd, Nat.add_assoc] at z0 z1 z2 z3
    have HRA := Lib.hid hra
    clear hra
    go_wp2_with fail
    refine (E2.out b ((l ++ exT (.mk k1 n1 m1 p1) 7) ++ [91]) _ _ _ (0) HV11.out.st ⟨ya, ca, rfl, HRA.out⟩ (by omega) (by rw [HBB.out] at HL2; have := HL2.out; simp at this ⊢; omega)).mono ?_
    clear z0 z1 z2 z3 HRA
    rintro e v12 ⟨rfl, g12, hp, ho⟩
    have HV12 := Lib.hid (HV11.out.step hp ho)
    clear hp ho HV11
    go_wp2_with fail
    refine (write_any b (((l ++ exT (.mk k1 n1 m1 p1) 7) ++ [91]) ++ exT (.mk k2 n2 m2 p2) 0) [93] _ _ HV12.out.st (by rw [HBB.out] at HL2; have := HL2.out; simp at this ⊢; omega)).mono ?_
    rintro e v13 ⟨rfl, g13, hp, ho⟩
    have HV13 := Lib.hid (HV12.out.step hp ho)
    clear hp ho HV12
    go_wp2_with fail
    refine ex_out HV13.out.st HV13.out.ow (by rw [HBB.out] at HX2; rw [HX2.out]; try simp [List.append_assoc])
end Go.Proofs.YtpbkeamjdolpgaaGreatDoor
namespace Go.Proofs.YtpbkeamjdolpgaaGreatDoor
open Go.RowKit Go.Lib Go.Shelf Go.Sort

set_option maxHeartbeats 4000000 in
set_option maxRecDepth 100000 in
theorem ex_12a (n : List UInt8) (p : Int) (k1 : Int) (n1 : List UInt8) (m1 : List Nd) (p1 : Int) (E1 : Hid (ExP (.mk k1 n1 m1 p1)))  (kids : List Nd) (hks : kids = [.mk k1 n1 m1 p1]) : ExP (.mk 12 n kids p) := by
  intro b l g w v a hP hv ha hlen
  obtain ⟨y, c, rfl, hrow⟩ := hv
  obtain ⟨kb, ko, rfl, _⟩ := hrow.at_ (i := 0) (x := .mk k1 n1 m1 p1) (by rw [hks]; rfl)
  have hm : kids.length = 1 := by rw [hks]; rfl
  have hkl : (Nd.mk 12 n kids p).kids.length < 2 ^ 62 := by show kids.length < _; omega
  have hg1 : Hid (kids[0]? = some (.mk k1 n1 m1 p1)) := by
    show _ = _
    rw [hks]; rfl
  have HM := Lib.hid hm
  have HKS := Lib.hid hks
  have hA : ∀ o, Below w.heap.size w (w.alloc o) := fun o => (Below.refl _ _).alloc (Nat.le_refl _) _
  have S0 : ExS b g w kids w.heap.size 12 n (some ⟨kb, ko, none⟩) c p l g (w.alloc (ndO 12 n (some ⟨kb, ko, none⟩) kids.length c p)) := ⟨hP.below (hA _), PrOw.of_below (hA _), Box4.new w _ _ _ _, hrow.below (hA _), by have := hP.lt; omega, fun e => by have := hP.buf e.symm; omega⟩
  have C : Hid (∀ W, Below (w.alloc (ndO 12 n (some ⟨kb, ko, none⟩) kids.length c p)).heap.size (w.alloc (ndO 12 n (some ⟨kb, ko, none⟩) kids.length c p)) W → Calls Tryz.prog 151 #[.agg #[.int .i64 12, .string ⟨n.toArray⟩, .slice (some ⟨kb, ko, none⟩) kids.length c, .int .i64 p]] W fun e w' => e = .returned (.int .i64 (tightR (.mk 12 n kids p))) ∧ Below W.heap.size W w') := fun W hb =>
    tight_any (fun k => k < b) (.mk 12 n kids p) hkl _ W ⟨some ⟨kb, ko, none⟩, c, rfl, S0.row.below hb⟩
  have HS0 := Lib.hid S0
  have HLEN := Lib.hid hlen
  have HAA := Lib.hid ha
  have HX : Hid (exT (.mk 12 n kids p) a = parT (decide (tightR (.mk 12 n kids p) < a)) (bodyT 12 n (exTs kids (asksR 12 (tightR (.mk 12 n kids p)) kids.length)) (ex0s kids) (grT kids))) := by
    show _ = _
    rw [exT]
  obtain ⟨T, hT⟩ : ∃ T, tightR (.mk 12 n kids p) = T := ⟨_, rfl⟩
  obtain ⟨B, hB⟩ : ∃ B, bodyT 12 n (exTs kids (asksR 12 T kids.length)) (ex0s kids) (grT kids) = B := ⟨_, rfl⟩
  obtain ⟨X, hX⟩ : ∃ X, exT (.mk 12 n kids p) a = X := ⟨_, rfl⟩
  rw [hT] at C HX
  rw [hB] at HX
  rw [hX] at HX HLEN ⊢
  have HT := Lib.hid hT
  have HB := Lib.hid hB
  clear hlen ha hT hB hX hA hP S0 hm hks hkl 
  unfold ndO at C HS0
  generalize c.val = c at C HS0 ⊢
  rw [HM.out] at C HS0 ⊢
  go_enter_defers Tryz.func95, Tryz.ntmps95
  go_wp2_with fail
  generalize w.alloc (.cells #[.int .i64 12, .string ⟨n.toArray⟩, .slice (some ⟨kb, ko, none⟩) 1 c, .int .i64 p] 53) = wA at *
  generalize hbx : w.heap.size = bx at *
  obtain ⟨x0, x1, x2, x3, _⟩ := HS0.out.box.facts
  rw [HM.out] at x2
  have y0 := cell_regrown x0
  have y1 := cell_regrown x1
  have y2 := cell_regrown x2
  have y3 := cell_regrown x3
  have cE := fun d os => Calls.regrown_of (C.out _ (below_regrown wA d os))
  clear hbx C
  refine wp_region_quiet_below (by kernel_rfl) (by kernel_rfl) ?_
  repeat (go_big_quiet_step (exact cE _ _))
  refine wpQuiet_nil ?_
  intro _ hw'
  obtain ⟨⟨dq, osq⟩, hw''⟩ := hw'
  subst hw''
  have hb2 := below_regrown wA dq osq
  generalize grow (redrawn wA dq) osq = w2 at *
  have HS2 : Hid (ExS b g w kids bx 12 n (some ⟨kb, ko, none⟩) c p l g w2) := ⟨HS0.out.st.below hb2, HS0.out.ow.below hb2, Box4.below HS0.out.box hb2, HS0.out.row.below hb2, HS0.out.ne, HS0.out.hg⟩
  clear y0 y1 y2 y3 cE x0 x1 x2 x3 hb2 HS0
  have HBB : Hid (B = n ++ exT (.mk k1 n1 m1 p1) 6) := by
    show B = _
    rw [← HB.out, HKS.out]
    rfl
  clear HB
  by_cases hq : T < a
  · have Q : decide (T < a) = true := decide_eq_true hq
    have HX2 : Hid (X = [40] ++ B ++ [41]) := by
      have := HX.out
      rw [decide_eq_true hq] at this
      exact this
    have HL2 : Hid (l.length + ([40] ++ B ++ [41]).length ≤ 2 ^ 46) := by
      have := HLEN.out
      rw [HX2.out] at this
      exact this
    clear hq HX HLEN
    go_wp2_with fail
    refine (write_any b l [40] _ _ HS2.out.st (by have := HL2.out; simp at this ⊢; omega)).mono ?_
    rintro e v0 ⟨rfl, g0, hp, ho⟩
    have HV0 := Lib.hid (HS2.out.step hp ho)
    clear hp ho HS2
    obtain ⟨x0, x1, x2, x3, _⟩ := HV0.out.box.facts
    rw [HM.out] at x2
    go_wp2_with fail
    have HD30 := Lib.hid (HV0.out.drew)
    clear HV0
    go_still_tail 5, (by kernel_rfl)
    change wpList _ _ _ _ _ (World.drew v0)
    generalize World.drew v0 = d30 at *
    clear x0 x1 x2 x3
    go_wp2_with fail
    refine (write_any b (l ++ [40]) n _ _ HD30.out.st (by rw [HBB.out] at HL2; have := HL2.out; simp at this ⊢; omega)).mono ?_
    rintro e v10 ⟨rfl, g10, hp, ho⟩
    have HV10 := Lib.hid (HD30.out.step hp ho)
    clear hp ho HD30
    obtain ⟨_, z0, z1, z3, ya, ca, z2, hra⟩ := HV10.out.row.get hg1.out
    simp only [Nat.zero_mul, Nat.add_zero] at z0 z1 z2 z3
    have HRA := Lib.hid hra
    clear hra
    go_wp2_with fail
    refine (E1.out b ((l ++ [40]) ++ n) _ _ _ (6) HV10.out.st ⟨ya, ca, rfl, HRA.out⟩ (by omega) (by rw [HBB.out] at HL2; have := HL2.out; simp at this ⊢; omega)).mono ?_
    clear z0 z1 z2 z3 HRA
    rintro e v11 ⟨rfl, g11, hp, ho⟩
    have HV11 := Lib.hid (HV10.out.step hp ho)
    clear hp ho HV10
    go_wp2_with fail
    refine ex_out_par HV11.out.st HV11.out.ow (by rw [HBB.out] at HX2 HL2; rw [HX2.out]; try simp [List.append_assoc]) (by rw [HBB.out] at HX2 HL2; have := HL2.out; simp at this ⊢; omega)
  · have Q : decide (T < a) = false := decide_eq_false hq
    have HX2 : Hid (X = B) := by
      have := HX.out
      rw [decide_eq_false hq] at this
      exact this
    have HL2 : Hid (l.length + B.length ≤ 2 ^ 46) := by
      have := HLEN.out
      rw [HX2.out] at this
      exact this
    clear hq HX HLEN
    obtain ⟨x0, x1, x2, x3, _⟩ := HS2.out.box.facts
    rw [HM.out] at x2
    go_wp2_with fail
    have HD30 := Lib.hid (HS2.out.drew)
    clear HS2
    go_still_tail 5, (by kernel_rfl)
    change wpList _ _ _ _ _ (World.drew w2)
    generalize World.drew w2 = d30 at *
    clear x0 x1 x2 x3
    go_wp2_with fail
    refine (write_any b l n _ _ HD30.out.st (by rw [HBB.out] at HL2; have := HL2.out; simp at this ⊢; omega)).mono ?_
    rintro e v10 ⟨rfl, g10, hp, ho⟩
    have HV10 := Lib.hid (HD30.out.step hp ho)
    clear hp ho HD30
    obtain ⟨_, z0, z1, z3, ya, ca, z2, hra⟩ := HV10.out.row.get hg1.out
    simp only [Nat.zero_mul, Nat.add_zero] at z0 z1 z2 z3
    have HRA := Lib.hid hra
    clear hra
    go_wp2_with fail
    refine (E1.out b (l ++ n) _ _ _ (6) HV10.out.st ⟨ya, ca, rfl, HRA.out⟩ (by omega) (by rw [HBB.out] at HL2; have := HL2.out; simp at this ⊢; omega)).mono ?_
    clear z0 z1 z2 z3 HRA
    rintro e v11 ⟨rfl, g11, hp, ho⟩
    have HV11 := Lib.hid (HV10.out.step hp ho)
    clear hp ho HV10
    go_wp2_with fail
    refine ex_out HV11.out.st HV11.out.ow (by rw [HBB.out] at HX2; rw [HX2.out]; try simp [List.append_assoc])
end Go.Proofs.YtpbkeamjdolpgaaGreatDoor
namespace Go.Proofs.YtpbkeamjdolpgaaGreatDoor
open Go.RowKit Go.Lib Go.Shelf Go.Sort

set_option maxHeartbeats 4000000 in
set_option maxRecDepth 100000 in
theorem ex_12b (n : List UInt8) (p : Int) (k1 : Int) (n1 : List UInt8) (m1 : List Nd) (p1 : Int) (E1 : Hid (ExP (.mk k1 n1 m1 p1))) (k2 : Int) (n2 : List UInt8) (m2 : List Nd) (p2 : Int) (E2 : Hid (ExP (.mk k2 n2 m2 p2))) (ht : levelS n = 3) (kids : List Nd) (hks : kids = [.mk k1 n1 m1 p1, .mk k2 n2 m2 p2]) : ExP (.mk 12 n kids p) := by
  intro b l g w v a hP hv ha hlen
  obtain ⟨y, c, rfl, hrow⟩ := hv
  obtain ⟨kb, ko, rfl, _⟩ := hrow.at_ (i := 0) (x := .mk k1 n1 m1 p1) (by rw [hks]; rfl)
  have hm : kids.length = 2 := by rw [hks]; rfl
  have hkl : (Nd.mk 12 n kids p).kids.length < 2 ^ 62 := by show kids.length < _; omega
  have hg1 : Hid (kids[0]? = some (.mk k1 n1 m1 p1)) := by
    show _ = _
    rw [hks]; rfl
  have hg2 : Hid (kids[1]? = some (.mk k2 n2 m2 p2)) := by
    show _ = _
    rw [hks]; rfl
  have HM := Lib.hid hm
  have HKS := Lib.hid hks
  have hA : ∀ o, Below w.heap.size w (w.alloc o) := fun o => (Below.refl _ _).alloc (Nat.le_refl _) _
  have S0 : ExS b g w kids w.heap.size 12 n (some ⟨kb, ko, none⟩) c p l g (w.alloc (ndO 12 n (some ⟨kb, ko, none⟩) kids.length c p)) := ⟨hP.below (hA _), PrOw.of_below (hA _), Box4.new w _ _ _ _, hrow.below (hA _), by have := hP.lt; omega, fun e => by have := hP.buf e.symm; omega⟩
  have C : Hid (∀ W, Below (w.alloc (ndO 12 n (some ⟨kb, ko, none⟩) kids.length c p)).heap.size (w.alloc (ndO 12 n (some ⟨kb, ko, none⟩) kids.length c p)) W → Calls Tryz.prog 151 #[.agg #[.int .i64 12, .string ⟨n.toArray⟩, .slice (some ⟨kb, ko, none⟩) kids.length c, .int .i64 p]] W fun e w' => e = .returned (.int .i64 (tightR (.mk 12 n kids p))) ∧ Below W.heap.size W w') := fun W hb =>
    tight_any (fun k => k < b) (.mk 12 n kids p) hkl _ W ⟨some ⟨kb, ko, none⟩, c, rfl, S0.row.below hb⟩
  have HS0 := Lib.hid S0
  have HLEN := Lib.hid hlen
  have HAA := Lib.hid ha
  have HX : Hid (exT (.mk 12 n kids p) a = parT (decide (tightR (.mk 12 n kids p) < a)) (bodyT 12 n (exTs kids (asksR 12 (tightR (.mk 12 n kids p)) kids.length)) (ex0s kids) (grT kids))) := by
    show _ = _
    rw [exT]
  obtain ⟨T, hT⟩ : ∃ T, tightR (.mk 12 n kids p) = T := ⟨_, rfl⟩
  obtain ⟨B, hB⟩ : ∃ B, bodyT 12 n (exTs kids (asksR 12 T kids.length)) (ex0s kids) (grT kids) = B := ⟨_, rfl⟩
  obtain ⟨X, hX⟩ : ∃ X, exT (.mk 12 n kids p) a = X := ⟨_, rfl⟩
  rw [hT] at C HX
  rw [hB] at HX
  rw [hX] at HX HLEN ⊢
  have HT := Lib.hid hT
  have HB := Lib.hid hB
  clear hlen ha hT hB hX hA hP S0 hm hks hkl 
  unfold ndO at C HS0
  generalize c.val = c at C HS0 ⊢
  rw [HM.out] at C HS0 ⊢
  go_enter_defers Tryz.func95, Tryz.ntmps95
  go_wp2_with fail
  generalize w.alloc (.cells #[.int .i64 12, .string ⟨n.toArray⟩, .slice (some ⟨kb, ko, none⟩) 2 c, .int .i64 p] 53) = wA at *
  generalize hbx : w.heap.size = bx at *
  obtain ⟨x0, x1, x2, x3, _⟩ := HS0.out.box.facts
  rw [HM.out] at x2
  have y0 := cell_regrown x0
  have y1 := cell_regrown x1
  have y2 := cell_regrown x2
  have y3 := cell_regrown x3
  have cE := fun d os => Calls.regrown_of (C.out _ (below_regrown wA d os))
  clear hbx C
  refine wp_region_quiet_below (by kernel_rfl) (by kernel_rfl) ?_
  repeat (go_big_quiet_step (exact cE _ _))
  refine wpQuiet_nil ?_
  intro _ hw'
  obtain ⟨⟨dq, osq⟩, hw''⟩ := hw'
  subst hw''
  have hb2 := below_regrown wA dq osq
  generalize grow (redrawn wA dq) osq = w2 at *
  have HS2 : Hid (ExS b g w kids bx 12 n (some ⟨kb, ko, none⟩) c p l g w2) := ⟨HS0.out.st.below hb2, HS0.out.ow.below hb2, Box4.below HS0.out.box hb2, HS0.out.row.below hb2, HS0.out.ne, HS0.out.hg⟩
  clear y0 y1 y2 y3 cE x0 x1 x2 x3 hb2 HS0
  have e3 : T = 3 := by
    rw [← HT.out, HKS.out]
    exact ht
  have hT8 : T ≤ 5 := by omega
  have q3 : (T == 3) = true := beq_iff_eq.2 e3
  have q3' : ((T : Int) == 3) = true := beq_iff_eq.2 (by omega)
  have HA3 : asksR 12 T 2 = [T + 1, T + 1] := by
    subst e3
    rfl
  clear e3
  have HBB : Hid (B = exT (.mk k1 n1 m1 p1) (T + 1) ++ ([32] ++ n ++ [32]) ++ exT (.mk k2 n2 m2 p2) (T + 1)) := by
    show B = _
    rw [← HB.out, HKS.out]
    show bodyT 12 n (exTs _ (asksR 12 T 2)) _ _ = _
    rw [HA3]
    rfl
  clear HB HA3
  have hnl : n.length + 2 ≤ 2 ^ 46 := by
    have h1 := HLEN.out
    rw [HX.out] at h1
    have h2 := parT_len (decide (T < a)) B
    rw [HBB.out] at h1 h2
    simp at h1 h2
    omega
  obtain ⟨A1, hA1⟩ : ∃ A1, A1 = [32] ++ n := ⟨_, rfl⟩
  obtain ⟨A2, hA2⟩ : ∃ A2, A2 = [32] ++ n ++ [32] := ⟨_, rfl⟩
  have f1 : ∀ W, (Op.stringOp .add ⟨#[32]⟩ ⟨n.toArray⟩).run Tryz.prog W = .ok (.string ⟨A1.toArray⟩) W := cat_run [32] n A1 hA1 (by simp; omega)
  have f2 : ∀ W, (Op.stringOp .add ⟨A1.toArray⟩ ⟨#[32]⟩).run Tryz.prog W = .ok (.string ⟨A2.toArray⟩) W := cat_run A1 [32] A2 (by rw [hA2, hA1]) (by rw [hA1]; simp; omega)
  rw [← hA2] at HBB
  clear hA1 hA2 hnl
  by_cases hq : T < a
  · have Q : decide (T < a) = true := decide_eq_true hq
    have HX2 : Hid (X = [40] ++ B ++ [41]) := by
      have := HX.out
      rw [decide_eq_true hq] at this
      exact this
    have HL2 : Hid (l.length + ([40] ++ B ++ [41]).length ≤ 2 ^ 46) := by
      have := HLEN.out
      rw [HX2.out] at this
      exact this
    clear hq HX HLEN
    go_wp2_with fail
    refine (write_any b l [40] _ _ HS2.out.st (by have := HL2.out; simp at this ⊢; omega)).mono ?_
    rintro e v0 ⟨rfl, g0, hp, ho⟩
    have HV0 := Lib.hid (HS2.out.step hp ho)
    clear hp ho HS2
    obtain ⟨x0, x1, x2, x3, _⟩ := HV0.out.box.facts
    rw [HM.out] at x2
    obtain ⟨_, z0, z1, z3, ya, ca, z2, hra⟩ := HV0.out.row.get hg1.out
    simp only [Nat.zero_mul, Nat.add_zero] at z0 z1 z2 z3
    have HRA := Lib.hid hra
    clear hra
    go_wp2_with fail
    refine (E1.out b (l ++ [40]) _ _ _ ((T + 1)) HV0.out.st ⟨ya, ca, rfl, HRA.out⟩ (by omega) (by rw [HBB.out] at HL2; have := HL2.out; simp at this ⊢; omega)).mono ?_
    clear z0 z1 z2 z3 HRA
    rintro e v10 ⟨rfl, g10, hp, ho⟩
    have HV10 := Lib.hid (HV0.out.step hp ho)
    clear hp ho HV0
    obtain ⟨x0, x1, x2, x3, _⟩ := HV10.out.box.facts
    rw [HM.out] at x2
    go_wp2_with fail
    have HD31 := Lib.hid (HV10.out.drew)
    clear HV10
    go_still_tail 7, (by kernel_rfl)
    change wpList _ _ _ _ _ (World.drew v10)
    generalize World.drew v10 = d31 at *
    clear x0 x1 x2 x3
    go_wp2_with fail
    refine (write_any b ((l ++ [40]) ++ exT (.mk k1 n1 m1 p1) (T + 1)) A2 _ _ HD31.out.st (by rw [HBB.out] at HL2; have := HL2.out; simp at this ⊢; omega)).mono ?_
    rintro e v11 ⟨rfl, g11, hp, ho⟩
    have HV11 := Lib.hid (HD31.out.step hp ho)
    clear hp ho HD31
    obtain ⟨_, z0, z1, z3, ya, ca, z2, hra⟩ := HV11.out.row.get hg2.out
    simp only [Nat.one_mul, Nat.reduceAdd, Nat.add_assoc] at z0 z1 z2 z3
    have HRA := Lib.hid hra
    clear hra
    go_wp2_with fail
    refine (E2.out b (((l ++ [40]) ++ exT (.mk k1 n1 m1 p1) (T + 1)) ++ A2) _ _ _ ((T + 1)) HV11.out.st ⟨ya, ca, rfl, HRA.out⟩ (by omega) (by rw [HBB.out] at HL2; have := HL2.out; simp at this ⊢; omega)).mono ?_
    clear z0 z1 z2 z3 HRA
    rintro e v12 ⟨rfl, g12, hp, ho⟩
    have HV12 := Lib.hid (HV11.out.step hp ho)
    clear hp ho HV11
    go_wp2_with fail
    refine ex_out_par HV12.out.st HV12.out.ow (by rw [HBB.out] at HX2 HL2; rw [HX2.out]; try simp [List.append_assoc]) (by rw [HBB.out] at HX2 HL2; have := HL2.out; simp at this ⊢; omega)
  · have Q : decide (T < a) = false := decide_eq_false hq
    have HX2 : Hid (X = B) := by
      have := HX.out
      rw [decide_eq_false hq] at this
      exact this
    have HL2 : Hid (l.length + B.length ≤ 2 ^ 46) := by
      have := HLEN.out
      rw [HX2.out] at this
      exact this
    clear hq HX HLEN
    obtain ⟨x0, x1, x2, x3, _⟩ := HS2.out.box.facts
    rw [HM.out] at x2
    obtain ⟨_, z0, z1, z3, ya, ca, z2, hra⟩ := HS2.out.row.get hg1.out
    simp only [Nat.zero_mul, Nat.add_zero] at z0 z1 z2 z3
    have HRA := Lib.hid hra
    clear hra
    go_wp2_with fail
    refine (E1.out b l _ _ _ ((T + 1)) HS2.out.st ⟨ya, ca, rfl, HRA.out⟩ (by omega) (by rw [HBB.out] at HL2; have := HL2.out; simp at this ⊢; omega)).mono ?_
    clear z0 z1 z2 z3 HRA
    rintro e v10 ⟨rfl, g10, hp, ho⟩
    have HV10 := Lib.hid (HS2.out.step hp ho)
    clear hp ho HS2
    obtain ⟨x0, x1, x2, x3, _⟩ := HV10.out.box.facts
    rw [HM.out] at x2
    go_wp2_with fail
    have HD31 := Lib.hid (HV10.out.drew)
    clear HV10
    go_still_tail 7, (by kernel_rfl)
    change wpList _ _ _ _ _ (World.drew v10)
    generalize World.drew v10 = d31 at *
    clear x0 x1 x2 x3
    go_wp2_with fail
    refine (write_any b (l ++ exT (.mk k1 n1 m1 p1) (T + 1)) A2 _ _ HD31.out.st (by rw [HBB.out] at HL2; have := HL2.out; simp at this ⊢; omega)).mono ?_
    rintro e v11 ⟨rfl, g11, hp, ho⟩
    have HV11 := Lib.hid (HD31.out.step hp ho)
    clear hp ho HD31
    obtain ⟨_, z0, z1, z3, ya, ca, z2, hra⟩ := HV11.out.row.get hg2.out
    simp only [Nat.one_mul, Nat.reduceAdd, Nat.add_assoc] at z0 z1 z2 z3
    have HRA := Lib.hid hra
    clear hra
    go_wp2_with fail
    refine (E2.out b ((l ++ exT (.mk k1 n1 m1 p1) (T + 1)) ++ A2) _ _ _ ((T + 1)) HV11.out.st ⟨ya, ca, rfl, HRA.out⟩ (by omega) (by rw [HBB.out] at HL2; have := HL2.out; simp at this ⊢; omega)).mono ?_
    clear z0 z1 z2 z3 HRA
    rintro e v12 ⟨rfl, g12, hp, ho⟩
    have HV12 := Lib.hid (HV11.out.step hp ho)
    clear hp ho HV11
    go_wp2_with fail
    refine ex_out HV12.out.st HV12.out.ow (by rw [HBB.out] at HX2; rw [HX2.out]; try simp [List.append_assoc])
end Go.Proofs.YtpbkeamjdolpgaaGreatDoor
