/- The walk of the reference's levels. -/
import Derived.Test.YtpbkeamjdolpgaaGreatDoorTreeQl
namespace Go.Proofs.YtpbkeamjdolpgaaGreatDoor
open Go.RowKit Go.Lib Go.Shelf

theorem level_out {C : Ctx} {tight : Nat → Res Nd} {k : Nat} {x : Nd} {f p : Nat} {b : Bool} (hne : Tot (levelM C.ts C.s.size tight k f x) b p ≠ .out) (hi : (!b && anyT C.ts p (signsK k)) = false) : Mt (Tot (levelM C.ts C.s.size tight k f x) b p) b p x := by
  cases b
  · have h1 : anyT C.ts p (signsK k) = false := by simpa using hi
    rw [tot_go] at hne ⊢
    cases f with
    | zero => exact absurd rfl hne
    | succ f =>
      rw [levelM, h1]
      exact ⟨rfl, rfl, rfl⟩
  · exact ⟨rfl, rfl⟩
/-- What is known at the head of a level's loop. -/
def LvS (C : Ctx) (tight : Nat → Res Nd) (k : Nat) (R : Res Nd) (E b : Bool) (q : Nat) (x : Nd) (g : Nat) : Prop :=
  (E = true → ∃ f0, R = Tot (levelM C.ts C.s.size tight k f0 x) b q ∧ (!b && anyT C.ts q (signsK k)) = true ∧ f0 ≤ g) ∧ (E = false → Mt R b q x)
theorem level_in {b : Bool} {ts : List Tk} {q : Nat} {l : List (List UInt8)} (h : (!b && anyT ts q l) = true) : b = false ∧ anyT ts q l = true := by
  simp only [Bool.and_eq_true, Bool.not_eq_true'] at h
  exact h
set_option maxHeartbeats 4000000 in
set_option maxRecDepth 100000 in
theorem rlevel5_any (C : Ctx) (ex : Nat → Res Nd) (f gf : Nat) (hu : ROne C 181 (unaryL C.ts C.s.size ex f gf)) (w : World) (b : Bool) (p : Nat) (h : RSt C w b p) (hne : Tot (unaryL C.ts C.s.size ex f gf) b p ≠ .out) :
    Calls Tryz.prog 143 #[.pointer (some ⟨C.pb, 0, none⟩), .int .i64 5] w (RFinN C w (unaryL C.ts C.s.size ex f gf) b p) := by
  obtain ⟨R, hR⟩ : ∃ R, Tot (unaryL C.ts C.s.size ex f gf) b p = R := ⟨_, rfl⟩
  have HT : Hid (R = Tot (unaryL C.ts C.s.size ex f gf) b p) := hj hR.symm
  rw [hR] at hne
  have HR := hj hR
  have HNE := hj hne
  have HHU := hj hu
  have HN1 : Hid (NSt C w w b p []) := NSt.start h
  clear hR hne h hu
  go_enter Tryz.func143, Tryz.ntmps143
  go_upto_region 1 with (fail)
  have HN2 : Hid (NSt C w (World.alloc w (.cells #[.int .i64 0, .string ⟨#[]⟩, .slice none 0 0, .int .i64 0] 53)) b p [zB w.heap.size]) := hj (HN1.out.alloc _ _ _ _)
  clear HN1
  generalize World.alloc w (.cells #[.int .i64 0, .string ⟨#[]⟩, .slice none 0 0, .int .i64 0] 53) = W3 at HN2 ⊢
  have c4 := HHU.out _ _ _ HN2.out.st (fun e => HNE.out (by rw [HT.out, e]))
  unfold RFinN at c4
  go_wp2_with fail
  (with_reducible refine c4.mono ?_)
  clear c4
  rintro e V17 ⟨b5, q6, k11, n12, l13, pp14, y15, cp16, hM7, rfl, hk10, hs8, ho9⟩
  have HN18 : Hid (NSt C w V17 b5 q6 [zB w.heap.size]) := hj (HN2.out.call hs8 ho9)
  have HK19 : Hid (Rw w.heap.size V17 [w.heap.size] l13 y15) := hj (HN2.out.row HN2.out.ow.size hk10)
  clear HN2 ho9 hs8 hk10
  have HM : Hid (Mt R b5 q6 (.mk k11 n12 l13 pp14)) := by
    show Mt _ _ _ _
    rw [HT.out]
    exact hM7
  clear hM7 HT
  obtain ⟨r0, r1, r2, r3, rf⟩ : BoxF V17 (w.heap.size) (.int .i64 0) (.string ⟨#[]⟩) (.slice none 0 0) (.int .i64 0) := HN18.out.at_ (List.Mem.head _)
  have HN20 : Hid (NSt C w (S4 V17 w.heap.size (.int .i64 k11) (.string ⟨n12.toArray⟩) (.slice y15 l13.length cp16) (.int .i64 pp14)) b5 q6 [nB w.heap.size k11 n12 y15 l13 cp16 pp14]) := hj (NSt.set4 (pre := []) HN18.out)
  have HK21 : Hid (Rw w.heap.size (S4 V17 w.heap.size (.int .i64 k11) (.string ⟨n12.toArray⟩) (.slice y15 l13.length cp16) (.int .i64 pp14)) [w.heap.size] l13 y15) := hj (HK19.out.set4 (List.Mem.head _))
  have HW : Hid (w.heap.size ≤ w.heap.size) := hj (Nat.le_refl _)
  have HF : Hid (RFinN C w (unaryL C.ts C.s.size ex f gf) b p (.returned (.agg #[.int .i64 k11, .string ⟨n12.toArray⟩, .slice y15 l13.length cp16, .int .i64 pp14])) (S4 V17 w.heap.size (.int .i64 k11) (.string ⟨n12.toArray⟩) (.slice y15 l13.length cp16) (.int .i64 pp14))) := hj (NSt.fin (n := n12) (l := l13) HN20.out HW.out (by rw [HR.out]; exact HM.out) HK21.out)
  clear HN18 HN20 HW HM HK21 HK19
  go_wp2_with fail
  exact ret_node rfl rfl rfl (by simp [go_sem, r0]) (by simp [go_sem, r1]) (by simp [go_sem, r2]) (by simp [go_sem, r3]) HF.out
set_option maxHeartbeats 4000000 in
set_option maxRecDepth 100000 in
theorem rlevel_any (C : Ctx) (tight : Nat → Res Nd) (k : Nat) (hk4 : k ≤ 4) (f : Nat) (_hf : f ≤ 8192) (ht : ∀ w b p, RSt C w b p → Tot tight b p ≠ .out → Calls Tryz.prog 143 #[.pointer (some ⟨C.pb, 0, none⟩), .int .i64 ((k : Int) + 1)] w (RFinN C w tight b p)) (w : World) (b : Bool) (p : Nat) (h : RSt C w b p) (hne : Tot (levelO C.ts C.s.size tight k f) b p ≠ .out) :
    Calls Tryz.prog 143 #[.pointer (some ⟨C.pb, 0, none⟩), .int .i64 k] w (RFinN C w (levelO C.ts C.s.size tight k f) b p) := by
  obtain ⟨R, hR⟩ : ∃ R, Tot (levelO C.ts C.s.size tight k f) b p = R := ⟨_, rfl⟩
  have HT : Hid (R = Tot (levelO C.ts C.s.size tight k f) b p) := hj hR.symm
  rw [hR] at hne
  have HR := hj hR
  have HNE := hj hne
  have HHT := hj ht
  have HN22 : Hid (NSt C w w b p []) := NSt.start h
  clear hR hne h ht
  have Qk : ((k : Int) == 5) = false := beq_eq_false_iff_ne.2 (by omega)
  have Xk : IntKind.i64.wrap ((k : Int) + 1) = (k : Int) + 1 := IntWalk.i64_in _ (by omega)
  have hk5 : k < 5 := by omega
  have HK5 := hj hk5
  clear hk5
  have HT0 : Hid (R = (Tot tight b p).bind fun x q => levelM C.ts C.s.size tight k f x q) := by
    show R = _
    rw [HT.out, ← tot_bind]
    rfl
  clear HT
  go_enter Tryz.func143, Tryz.ntmps143
  go_upto_region 1 with (fail)
  have HN23 : Hid (NSt C w (World.alloc w (.cells #[.int .i64 0, .string ⟨#[]⟩, .slice none 0 0, .int .i64 0] 53)) b p [zB w.heap.size]) := hj (HN22.out.alloc _ _ _ _)
  clear HN22
  generalize World.alloc w (.cells #[.int .i64 0, .string ⟨#[]⟩, .slice none 0 0, .int .i64 0] 53) = W24 at HN23 ⊢
  have c25 := HHT.out _ _ _ HN23.out.st (fun e => HNE.out (by rw [HT0.out, e]; rfl))
  unfold RFinN at c25
  go_wp2_with fail
  (with_reducible refine c25.mono ?_)
  clear c25
  rintro e V38 ⟨b26, q27, k32, n33, l34, pp35, y36, cp37, hM28, rfl, hk31, hs29, ho30⟩
  have HN39 : Hid (NSt C w V38 b26 q27 [zB w.heap.size]) := hj (HN23.out.call hs29 ho30)
  have HK40 : Hid (Rw w.heap.size V38 [w.heap.size] l34 y36) := hj (HN23.out.row HN23.out.ow.size hk31)
  clear HN23 ho30 hs29 hk31
  have HT1 : Hid (R = Tot (levelM C.ts C.s.size tight k f (.mk k32 n33 l34 pp35)) b26 q27) := by
    show R = _
    rw [HT0.out, hM28.bind]
  clear hM28 HT0
  go_upto_region 4 with (fail)
  have HN41 : Hid (NSt C w (World.alloc V38 (.cells #[.int .i64 k32, .string ⟨n33.toArray⟩, .slice y36 l34.length cp37, .int .i64 pp35] 53)) b26 q27 [nB V38.heap.size k32 n33 y36 l34 cp37 pp35, zB w.heap.size]) := hj (HN39.out.alloc _ _ _ _)
  have HK43 : Hid (Rw w.heap.size (World.alloc V38 (.cells #[.int .i64 k32, .string ⟨n33.toArray⟩, .slice y36 l34.length cp37, .int .i64 pp35] 53)) [V38.heap.size, w.heap.size] l34 y36) := hj (HK40.out.alloc _)
  clear HN39 HK40
  generalize World.alloc V38 (.cells #[.int .i64 k32, .string ⟨n33.toArray⟩, .slice y36 l34.length cp37, .int .i64 pp35] 53) = W42 at HN41 HK43 ⊢
  have c44 := rsignq_any C b26 q27 k HK5.out W42 HN41.out.st
  obtain ⟨E45, hE45⟩ : ∃ E, (!b26 && anyT C.ts q27 (signsK k)) = E := ⟨_, rfl⟩
  rw [hE45] at c44
  have HE45 := hj hE45
  clear hE45
  go_wp2_with fail
  (with_reducible refine c44.mono ?_)
  clear c44
  rintro e V47 ⟨rfl, hb46⟩
  have hb46s := HN41.out.st.below hb46
  have hb46o : Ow C.pb W42 V47 := Ow.of_below hb46
  clear hb46
  have HN48 : Hid (NSt C w V47 b26 q27 [nB V38.heap.size k32 n33 y36 l34 cp37 pp35, zB w.heap.size]) := hj (HN41.out.call hb46s hb46o)
  have HK49 : Hid (Rw w.heap.size V47 [V38.heap.size, w.heap.size] l34 y36) := hj (HK43.out.call HN41.out.pb hb46o)
  clear HN41 HK43 hb46o hb46s
  go_wp2_with fail
  have HST : LvS C tight k R E45 b26 q27 (.mk k32 n33 l34 pp35) f := ⟨fun h => ⟨f, HT1.out, HE45.out.trans h, Nat.le_refl _⟩, fun h => by
    have hne := HNE.out
    rw [HT1.out] at hne ⊢
    exact level_out hne (HE45.out.trans h)⟩
  clear HT1 HE45
  go_loopg [6] f (fun g u wx => ∃ (E b : Bool) (q : Nat) (kk : Int) (n : List UInt8) (kids : List Nd) (y : Option Addr) (c : Nat) (pp : Int), u = .bool E ∧ NSt C w wx b q [nB V38.heap.size kk n y kids c pp, zB w.heap.size] ∧ Rw w.heap.size wx [V38.heap.size, w.heap.size] kids y ∧ LvS C tight k R E b q (.mk kk n kids pp) g)
  case atStart => exact ⟨E45, b26, q27, k32, n33, l34, y36, cp37, pp35, rfl, HN48.out, HK49.out, HST⟩
  case round =>
    clear HN48 HK49 HST
    obtain ⟨E, b9, q, kk, n, kids, y, c, pp, rfl, hN, hK, hS⟩ := hrel
    have HNr := hj hN
    have HKr := hj hK
    clear hN hK
    cases E
    · have HM : Hid (Mt R b9 q (.mk kk n kids pp)) := hS.2 rfl
      clear hS Qk Xk
      obtain ⟨x0, x1, x2, x3, xf⟩ : BoxF wr (V38.heap.size) (.int .i64 kk) (.string ⟨n.toArray⟩) (.slice y kids.length c) (.int .i64 pp) := HNr.out.at_ (List.Mem.head _)
      obtain ⟨r0, r1, r2, r3, rf⟩ : BoxF wr (w.heap.size) (.int .i64 0) (.string ⟨#[]⟩) (.slice none 0 0) (.int .i64 0) := HNr.out.at_ (List.Mem.tail _ (List.Mem.head _))
      have HN50 : Hid (NSt C w (S4 wr w.heap.size (.int .i64 kk) (.string ⟨n.toArray⟩) (.slice y kids.length c) (.int .i64 pp)) b9 q [nB V38.heap.size kk n y kids c pp, nB w.heap.size kk n y kids c pp]) := hj (NSt.set4 (pre := [nB V38.heap.size kk n y kids c pp]) HNr.out)
      have HK51 : Hid (Rw w.heap.size (S4 wr w.heap.size (.int .i64 kk) (.string ⟨n.toArray⟩) (.slice y kids.length c) (.int .i64 pp)) [V38.heap.size, w.heap.size] kids y) := hj (HKr.out.set4 (List.Mem.tail _ (List.Mem.head _)))
      have HW : Hid (w.heap.size ≤ w.heap.size) := hj (Nat.le_refl _)
      have HF : Hid (RFinN C w (levelO C.ts C.s.size tight k f) b p (.returned (.agg #[.int .i64 kk, .string ⟨n.toArray⟩, .slice y kids.length c, .int .i64 pp])) (S4 wr w.heap.size (.int .i64 kk) (.string ⟨n.toArray⟩) (.slice y kids.length c) (.int .i64 pp))) := hj (NSt.fin (n := n) (l := kids) HN50.out HW.out (by rw [HR.out]; exact HM.out) HK51.out)
      clear HNr HN50 HW HM HK51 HKr
      go_wp2_with fail
      exact ret_node rfl rfl rfl (by simp [go_sem, r0]) (by simp [go_sem, r1]) (by simp [go_sem, r2]) (by simp [go_sem, r3]) HF.out
    · obtain ⟨f0, hS1, hS2, hS3⟩ := hS.1 rfl
      obtain ⟨rfl, hi⟩ := level_in hS2
      have HI := hj hi
      have HS1 := hj hS1
      clear hi hS hS1 hS2
      obtain ⟨f1, rfl⟩ : ∃ f1, f0 = f1 + 1 := by
        cases f0 with
        | zero => exact absurd HS1.out HNE.out
        | succ f1 => exact ⟨f1, rfl⟩
      have HPN : Hid (q < C.ts.length) := anyT_lt HI.out
      obtain ⟨tx, htx⟩ : ∃ tx, textT C.ts q = tx := ⟨_, rfl⟩
      obtain ⟨pl, hpl⟩ : ∃ pl, placeT C.ts C.s.size q = pl := ⟨_, rfl⟩
      have HTX := hj htx
      have HPL := hj hpl
      clear htx hpl
      go_upto_region 6 with (fail)
      go_cut [7] from 21 to 34 (fun v wx => ∃ a : Nat, v = .pointer (some ⟨a, 0, none⟩) ∧ NSt C w wx false q [(a, .int .i64 12, .string ⟨tx.toArray⟩, .slice none 0 0, .int .i64 pl), nB V38.heap.size kk n y kids c pp, zB w.heap.size] ∧ Rw w.heap.size wx [a, V38.heap.size, w.heap.size] kids y)
      case first =>
        obtain ⟨t, ht⟩ : ∃ t, C.ts[q]? = some t := ⟨C.ts[q]'HPN.out, List.getElem?_eq_getElem _⟩
        obtain ⟨g1, hx, -, -, -⟩ := HNr.out.st.row q t ht
        obtain ⟨len, hlen⟩ : ∃ len, C.ts.length = len := ⟨_, rfl⟩
        obtain ⟨f1, f2, f3⟩ := HNr.out.opf hx hlen HTX.out HPN.out
        have cB := op_place HNr.out.drew ((Ow.refl C.pb wr).drew) hx hlen HTX.out HPN.out HPL.out
        have cA := op_place_z (HNr.out.alloc (.int .i64 0) (.string ⟨#[]⟩) (.slice none 0 0) (.int .i64 0)).drew ((Ow.refl C.pb (wr.alloc (.cells #[.int .i64 0, .string ⟨#[]⟩, .slice none 0 0, .int .i64 0] 53))).drew) hx hlen HTX.out HPN.out HPL.out
        have hp : q < len := by have := HPN.out; omega
        have hl : len ≤ 4096 := by have := HNr.out.st.len; omega
        have fa1 := fun o => al_cell f1 o
        have fa2 := fun o => al_cell f2 o
        have fa3 := fun o => al_cell f3 o
        have hn1 : C.pb ≠ wr.heap.size := by have := HNr.out.st.lt; omega
        have hn2 : g1 ≠ wr.heap.size := by
          have h : g1 < wr.heap.size := World.block_lt_of_cell? wr _ f3
          omega
        have d1 : (wr.drew).cell? ⟨C.pb, 1, none⟩ = some (.slice (some ⟨g1, 0, none⟩) len C.c) := f1
        have d2 : (wr.drew).cell? ⟨C.pb, 2, none⟩ = some (.int .i64 q) := f2
        have d3 : (wr.drew).cell? ⟨g1, q * 3 + 1, none⟩ = some (.string ⟨tx.toArray⟩) := f3
        have da1 : ∀ o, (wr.alloc o).drew.cell? ⟨C.pb, 1, none⟩ = some (.slice (some ⟨g1, 0, none⟩) len C.c) := fa1
        have da2 : ∀ o, (wr.alloc o).drew.cell? ⟨C.pb, 2, none⟩ = some (.int .i64 q) := fa2
        have da3 : ∀ o, (wr.alloc o).drew.cell? ⟨g1, q * 3 + 1, none⟩ = some (.string ⟨tx.toArray⟩) := fa3
        clear ht hx hlen
        go_region_held3 (fun w' => w'.cell? ⟨C.pb, 1, none⟩ = some (.slice (some ⟨g1, 0, none⟩) len C.c) ∧ w'.cell? ⟨C.pb, 2, none⟩ = some (.int .i64 q) ∧ w'.cell? ⟨g1, q * 3 + 1, none⟩ = some (.string ⟨tx.toArray⟩)) (first | with_reducible exact ⟨f1, f2, f3⟩ | with_reducible exact ⟨d1, d2, d3⟩ | with_reducible exact ⟨da1 _, da2 _, da3 _⟩ | with_reducible exact ⟨fa1 _, fa2 _, fa3 _⟩ | with_reducible exact ⟨fb1 _, fb2 _, fb3 _⟩ | with_reducible exact ⟨cell_set4 f1 hn1, cell_set4 f2 hn1, cell_set4 f3 hn2⟩) (first | (go_at_call 81; (with_reducible refine cA.mono ?_); rintro e w6 ⟨rfl, ⟨f1, f2, f3⟩, ⟨g0, g1c, g2c, g3c, gf⟩, hN6, hO6⟩) | (go_at_call 81; (with_reducible refine cB.mono ?_); rintro e w6 ⟨rfl, ⟨f1, f2, f3⟩, hN6, hO6⟩; have fb1 := fun o => al_cell f1 o; have fb2 := fun o => al_cell f2 o; have fb3 := fun o => al_cell f3 o))
        all_goals go_wp2_with fail
        all_goals go_meet
        all_goals (first | exact ⟨_, rfl, hN6.alloc _ _ _ _, (HKr.out.call HNr.out.pb hO6).alloc _⟩ | exact ⟨_, rfl, NSt.set4 (pre := []) hN6, ((HKr.out.alloc _).call HNr.out.pb hO6).set4 (List.Mem.head _)⟩)
      case rest =>
        obtain ⟨a, rfl, hN, hK0⟩ := hcut
        have HNc := hj hN
        clear hN
        have HKc0 := hj hK0
        clear hK0
        clear HNr
        have HT1 : Hid (R = (Tot tight false (q + 1)).bind fun y' r => if k = 2 then .ok (.mk 12 tx [.mk kk n kids pp, y'] (pl : Int)) r else levelM C.ts C.s.size tight k f1 (.mk 12 tx [.mk kk n kids pp, y'] (pl : Int)) r) := by
          show R = _
          rw [HS1.out, tot_go, levelM, if_pos HI.out, HTX.out, HPL.out]
          rfl
        clear HS1
        obtain ⟨x521, x522, x523, x524⟩ : wc.cell? ⟨C.pb, 2, none⟩ = some (.int .i64 q) ∧ wc.frozen? ⟨C.pb, 2, none⟩ = false ∧ q < C.ts.length ∧ C.ts.length ≤ 4096 := ⟨HNc.out.st.cellsF.2.2.1, HNc.out.st.cellsF.2.2.2.2.1, HPN.out, HNc.out.st.len⟩
        have x525 : IntKind.i64.wrap ((q : Int) + 1) = (q : Int) + 1 := IntWalk.i64_in _ (by omega)
        have x526 := hj x523
        clear x523 x524
        go_upto_region 8 with (fail)
        clear x521 x522 x525
        have HN53 : Hid (NSt C w (World.setCell wc ⟨C.pb, 2, none⟩ (.int .i64 ((q : Int) + 1))) false (q + 1) [(a, .int .i64 12, .string ⟨tx.toArray⟩, .slice none 0 0, .int .i64 pl), nB V38.heap.size kk n y kids c pp, zB w.heap.size]) := hj (HNc.out.step (q := q + 1) x526.out)
        have HK55 : Hid (Rw w.heap.size (World.setCell wc ⟨C.pb, 2, none⟩ (.int .i64 ((q : Int) + 1))) [a, V38.heap.size, w.heap.size] kids y) := hj (HKc0.out.step HNc.out.pb)
        clear HNc HKc0
        generalize World.setCell wc ⟨C.pb, 2, none⟩ (.int .i64 ((q : Int) + 1)) = W54 at HN53 HK55 ⊢
        have c56 := HHT.out _ _ _ HN53.out.st (fun e => HNE.out (by rw [HT1.out, e]; rfl))
        unfold RFinN at c56
        go_wp2_with fail
        (with_reducible refine c56.mono ?_)
        clear c56
        rintro e V69 ⟨b57, q58, k63, n64, l65, pp66, y67, cp68, hM59, rfl, hk62, hs60, ho61⟩
        have HN70 : Hid (NSt C w V69 b57 q58 [(a, .int .i64 12, .string ⟨tx.toArray⟩, .slice none 0 0, .int .i64 pl), nB V38.heap.size kk n y kids c pp, zB w.heap.size]) := hj (HN53.out.call hs60 ho61)
        have HK71 : Hid (Rw w.heap.size V69 [a, V38.heap.size, w.heap.size] kids y) := hj (HK55.out.call HN53.out.pb ho61)
        have HK72 : Hid (Rw w.heap.size V69 [a, V38.heap.size, w.heap.size] l65 y67) := hj (HN53.out.row HN53.out.ow.size hk62)
        clear HN53 HK55 ho61 hs60 hk62
        have HT2 : Hid (R = Tot (fun r => if k = 2 then .ok (.mk 12 tx [.mk kk n kids pp, (.mk k63 n64 l65 pp66)] (pl : Int)) r else levelM C.ts C.s.size tight k f1 (.mk 12 tx [.mk kk n kids pp, (.mk k63 n64 l65 pp66)] (pl : Int)) r) b57 q58) := by
          show R = _
          rw [HT1.out, hM59.bind]
        clear hM59 HT1
        go_upto_region 9 with (fail)
        have HN73 : Hid (NSt C w (World.alloc V69 (.cells #[.int .i64 k63, .string ⟨n64.toArray⟩, .slice y67 l65.length cp68, .int .i64 pp66] 53)) b57 q58 [nB V69.heap.size k63 n64 y67 l65 cp68 pp66, (a, .int .i64 12, .string ⟨tx.toArray⟩, .slice none 0 0, .int .i64 pl), nB V38.heap.size kk n y kids c pp, zB w.heap.size]) := hj (HN70.out.alloc _ _ _ _)
        have HK75 : Hid (Rw w.heap.size (World.alloc V69 (.cells #[.int .i64 k63, .string ⟨n64.toArray⟩, .slice y67 l65.length cp68, .int .i64 pp66] 53)) [V69.heap.size, a, V38.heap.size, w.heap.size] kids y) := hj (HK71.out.alloc _)
        have HK76 : Hid (Rw w.heap.size (World.alloc V69 (.cells #[.int .i64 k63, .string ⟨n64.toArray⟩, .slice y67 l65.length cp68, .int .i64 pp66] 53)) [V69.heap.size, a, V38.heap.size, w.heap.size] l65 y67) := hj (HK72.out.alloc _)
        clear HN70 HK71 HK72
        generalize World.alloc V69 (.cells #[.int .i64 k63, .string ⟨n64.toArray⟩, .slice y67 l65.length cp68, .int .i64 pp66] 53) = W74 at HN73 HK75 HK76 ⊢
        obtain ⟨u00, u01, u02, u03, u0f⟩ : BoxF W74 (V38.heap.size) (.int .i64 kk) (.string ⟨n.toArray⟩) (.slice y kids.length c) (.int .i64 pp) := HN73.out.at_ (List.Mem.tail _ (List.Mem.tail _ (List.Mem.head _)))
        obtain ⟨u10, u11, u12, u13, u1f⟩ : BoxF W74 (V69.heap.size) (.int .i64 k63) (.string ⟨n64.toArray⟩) (.slice y67 l65.length cp68) (.int .i64 pp66) := HN73.out.at_ (List.Mem.head _)
        obtain ⟨n0, n1, n2, n3, nf⟩ : BoxF W74 a (.int .i64 12) (.string ⟨tx.toArray⟩) (.slice none 0 0) (.int .i64 pl) := HN73.out.at_ (List.Mem.tail _ (List.Mem.head _))
        have na0 := fun o => al_cell n0 o
        have na1 := fun o => al_cell n1 o
        have na2 := fun o => al_cell n2 o
        have na3 := fun o => al_cell n3 o
        have naf : ∀ ob o, (World.alloc W74 ob).frozen? ⟨a, o, none⟩ = false := fun ob o => ((HN73.out.bx _ (List.Mem.tail _ (List.Mem.head _))).2.alloc ob).facts.2.2.2.2 o
        go_upto_region 10 with (fail)
        clear n0 n1 n2 n3 nf u00 u01 u02 u03 u0f u10 u11 u12 u13 u1f
        clear na0 na1 na2 na3 naf
        have HK77 : Hid (Rw w.heap.size (World.alloc W74 (.cells #[.int .i64 kk, .string ⟨n.toArray⟩, .slice y kids.length c, .int .i64 pp, .int .i64 k63, .string ⟨n64.toArray⟩, .slice y67 l65.length cp68, .int .i64 pp66] 53)) [V69.heap.size, a, V38.heap.size, w.heap.size] [(.mk kk n kids pp), (.mk k63 n64 l65 pp66)] (some ⟨W74.heap.size, 0, none⟩)) := hj (Rw.two HN73.out HN73.out.ow.size HK75.out HK76.out)
        have HN78 : Hid (NSt C w (World.alloc W74 (.cells #[.int .i64 kk, .string ⟨n.toArray⟩, .slice y kids.length c, .int .i64 pp, .int .i64 k63, .string ⟨n64.toArray⟩, .slice y67 l65.length cp68, .int .i64 pp66] 53)) b57 q58 [nB V69.heap.size k63 n64 y67 l65 cp68 pp66, (a, .int .i64 12, .string ⟨tx.toArray⟩, .slice none 0 0, .int .i64 pl), nB V38.heap.size kk n y kids c pp, zB w.heap.size]) := hj (HN73.out.blk _)
        clear HN73 HK75 HK76
        have HN79 : Hid (NSt C w (World.setCell (World.alloc W74 (.cells #[.int .i64 kk, .string ⟨n.toArray⟩, .slice y kids.length c, .int .i64 pp, .int .i64 k63, .string ⟨n64.toArray⟩, .slice y67 l65.length cp68, .int .i64 pp66] 53)) ⟨a, 2, none⟩ (.slice (some ⟨W74.heap.size, 0, none⟩) 2 2)) b57 q58 [nB V69.heap.size k63 n64 y67 l65 cp68 pp66, (a, .int .i64 12, .string ⟨tx.toArray⟩, .slice (some ⟨W74.heap.size, 0, none⟩) 2 2, .int .i64 pl), nB V38.heap.size kk n y kids c pp, zB w.heap.size]) := hj (NSt.set2 (pre := [nB V69.heap.size k63 n64 y67 l65 cp68 pp66]) HN78.out)
        have HK81 : Hid (Rw w.heap.size (World.setCell (World.alloc W74 (.cells #[.int .i64 kk, .string ⟨n.toArray⟩, .slice y kids.length c, .int .i64 pp, .int .i64 k63, .string ⟨n64.toArray⟩, .slice y67 l65.length cp68, .int .i64 pp66] 53)) ⟨a, 2, none⟩ (.slice (some ⟨W74.heap.size, 0, none⟩) 2 2)) [V69.heap.size, a, V38.heap.size, w.heap.size] [(.mk kk n kids pp), (.mk k63 n64 l65 pp66)] (some ⟨W74.heap.size, 0, none⟩)) := hj (HK77.out.set (List.Mem.tail _ (List.Mem.head _)))
        clear HN78 HK77
        generalize World.setCell (World.alloc W74 (.cells #[.int .i64 kk, .string ⟨n.toArray⟩, .slice y kids.length c, .int .i64 pp, .int .i64 k63, .string ⟨n64.toArray⟩, .slice y67 l65.length cp68, .int .i64 pp66] 53)) ⟨a, 2, none⟩ (.slice (some ⟨W74.heap.size, 0, none⟩) 2 2) = W80 at HN79 HK81 ⊢
        obtain ⟨n0, n1, n2, n3, nf⟩ : BoxF W80 a (.int .i64 12) (.string ⟨tx.toArray⟩) (.slice (some ⟨W74.heap.size, 0, none⟩) 2 2) (.int .i64 pl) := HN79.out.at_ (List.Mem.tail _ (List.Mem.head _))
        obtain ⟨x0, x1, x2, x3, xf⟩ : BoxF W80 (V38.heap.size) (.int .i64 kk) (.string ⟨n.toArray⟩) (.slice y kids.length c) (.int .i64 pp) := HN79.out.at_ (List.Mem.tail _ (List.Mem.tail _ (List.Mem.head _)))
        go_upto_region 11 with (fail)
        clear n0 n1 n2 n3 nf x0 x1 x2 x3 xf
        have HN82 : Hid (NSt C w ((World.setCell (World.setCell (World.setCell (World.setCell W80 ⟨V38.heap.size, 0, none⟩ (.int .i64 12)) ⟨V38.heap.size, 1, none⟩ (.string ⟨tx.toArray⟩)) ⟨V38.heap.size, 2, none⟩ (.slice (some ⟨W74.heap.size, 0, none⟩) 2 2)) ⟨V38.heap.size, 3, none⟩ (.int .i64 pl))) b57 q58 [nB V69.heap.size k63 n64 y67 l65 cp68 pp66, (a, .int .i64 12, .string ⟨tx.toArray⟩, .slice (some ⟨W74.heap.size, 0, none⟩) 2 2, .int .i64 pl), (V38.heap.size, .int .i64 12, .string ⟨tx.toArray⟩, .slice (some ⟨W74.heap.size, 0, none⟩) 2 2, .int .i64 pl), zB w.heap.size]) := hj (NSt.set4 (pre := [nB V69.heap.size k63 n64 y67 l65 cp68 pp66, (a, .int .i64 12, .string ⟨tx.toArray⟩, .slice (some ⟨W74.heap.size, 0, none⟩) 2 2, .int .i64 pl)]) HN79.out)
        have HK84 : Hid (Rw w.heap.size ((World.setCell (World.setCell (World.setCell (World.setCell W80 ⟨V38.heap.size, 0, none⟩ (.int .i64 12)) ⟨V38.heap.size, 1, none⟩ (.string ⟨tx.toArray⟩)) ⟨V38.heap.size, 2, none⟩ (.slice (some ⟨W74.heap.size, 0, none⟩) 2 2)) ⟨V38.heap.size, 3, none⟩ (.int .i64 pl))) [V69.heap.size, a, V38.heap.size, w.heap.size] [(.mk kk n kids pp), (.mk k63 n64 l65 pp66)] (some ⟨W74.heap.size, 0, none⟩)) := hj (HK81.out.set4 (List.Mem.tail _ (List.Mem.tail _ (List.Mem.head _))))
        clear HN79 HK81
        generalize (World.setCell (World.setCell (World.setCell (World.setCell W80 ⟨V38.heap.size, 0, none⟩ (.int .i64 12)) ⟨V38.heap.size, 1, none⟩ (.string ⟨tx.toArray⟩)) ⟨V38.heap.size, 2, none⟩ (.slice (some ⟨W74.heap.size, 0, none⟩) 2 2)) ⟨V38.heap.size, 3, none⟩ (.int .i64 pl)) = W83 at HN82 HK84 ⊢
        have HN85 : Hid (NSt C w W83 b57 q58 [(V38.heap.size, .int .i64 12, .string ⟨tx.toArray⟩, .slice (some ⟨W74.heap.size, 0, none⟩) 2 2, .int .i64 pl), zB w.heap.size]) := hj (HN82.out.sub (List.Sublist.cons _ (List.Sublist.cons _ (List.Sublist.refl _))))
        clear HN82
        have HK86 : Hid (Rw w.heap.size W83 [V38.heap.size, w.heap.size] [(.mk kk n kids pp), (.mk k63 n64 l65 pp66)] (some ⟨W74.heap.size, 0, none⟩)) := hj (HK84.out.less (fun a ha => List.Mem.tail _ (List.Mem.tail _ ha)))
        clear HK84
        have c87 := rsignq_any C b57 q58 k HK5.out W83 HN85.out.st
        obtain ⟨E88, hE88⟩ : ∃ E, (!b57 && anyT C.ts q58 (signsK k)) = E := ⟨_, rfl⟩
        rw [hE88] at c87
        have HE88 := hj hE88
        clear hE88
        go_wp2_with fail
        (with_reducible refine c87.mono ?_)
        clear c87
        rintro e V90 ⟨rfl, hb89⟩
        have hb89s := HN85.out.st.below hb89
        have hb89o : Ow C.pb W83 V90 := Ow.of_below hb89
        clear hb89
        have HN91 : Hid (NSt C w V90 b57 q58 [(V38.heap.size, .int .i64 12, .string ⟨tx.toArray⟩, .slice (some ⟨W74.heap.size, 0, none⟩) 2 2, .int .i64 pl), zB w.heap.size]) := hj (HN85.out.call hb89s hb89o)
        have HK92 : Hid (Rw w.heap.size V90 [V38.heap.size, w.heap.size] [(.mk kk n kids pp), (.mk k63 n64 l65 pp66)] (some ⟨W74.heap.size, 0, none⟩)) := hj (HK86.out.call HN85.out.pb hb89o)
        clear HN85 HK86 hb89o hb89s
        by_cases hk2 : k = 2
        · have HNX : LvS C tight k R false b57 q58 (.mk 12 tx [.mk kk n kids pp, (.mk k63 n64 l65 pp66)] (pl : Int)) (gk - 1) := ⟨(fun e => nomatch e), fun _ => by
            rw [HT2.out]
            simp only [hk2, if_true]
            exact Mt.ret _ _ _⟩
          have Q2 : ((k : Int) == 2) = true := by rw [hk2]; rfl
          have Q3 : ((k : Int) != 2) = false := by rw [hk2]; rfl
          clear hk2 HT2 Qk
          cases E88
          · go_wp2_with fail
            go_roundg (gk - 1)
            case measure => omega
            case rel => exact ⟨false, b57, q58, 12, tx, [(.mk kk n kids pp), (.mk k63 n64 l65 pp66)], (some ⟨W74.heap.size, 0, none⟩), 2, (pl : Int), rfl, HN91.out, HK92.out, HNX⟩
          · go_wp2_with fail
            go_roundg (gk - 1)
            case measure => omega
            case rel => exact ⟨false, b57, q58, 12, tx, [(.mk kk n kids pp), (.mk k63 n64 l65 pp66)], (some ⟨W74.heap.size, 0, none⟩), 2, (pl : Int), rfl, HN91.out, HK92.out, HNX⟩
        · have HT3 : Hid (R = Tot (levelM C.ts C.s.size tight k f1 (.mk 12 tx [.mk kk n kids pp, (.mk k63 n64 l65 pp66)] (pl : Int))) b57 q58) := by
            show R = _
            rw [HT2.out]
            simp only [if_neg hk2]
          have Q2 : ((k : Int) == 2) = false := beq_eq_false_iff_ne.2 (by omega)
          have Q3 : ((k : Int) != 2) = true := by rw [bne, Q2]; rfl
          clear hk2 HT2 Qk
          cases E88
          · have HNX : LvS C tight k R false b57 q58 (.mk 12 tx [.mk kk n kids pp, (.mk k63 n64 l65 pp66)] (pl : Int)) (gk - 1) := ⟨(fun e => nomatch e), fun _ => by
              have hne := HNE.out
              rw [HT3.out] at hne ⊢
              exact level_out hne HE88.out⟩
            go_wp2_with fail
            go_roundg (gk - 1)
            case measure => omega
            case rel => exact ⟨false, b57, q58, 12, tx, [(.mk kk n kids pp), (.mk k63 n64 l65 pp66)], (some ⟨W74.heap.size, 0, none⟩), 2, (pl : Int), rfl, HN91.out, HK92.out, HNX⟩
          · have HNX : LvS C tight k R true b57 q58 (.mk 12 tx [.mk kk n kids pp, (.mk k63 n64 l65 pp66)] (pl : Int)) (gk - 1) := ⟨fun _ => ⟨f1, HT3.out, HE88.out, by omega⟩, fun e => nomatch e⟩
            go_wp2_with fail
            go_roundg (gk - 1)
            case measure => omega
            case rel => exact ⟨true, b57, q58, 12, tx, [(.mk kk n kids pp), (.mk k63 n64 l65 pp66)], (some ⟨W74.heap.size, 0, none⟩), 2, (pl : Int), rfl, HN91.out, HK92.out, HNX⟩
end Go.Proofs.YtpbkeamjdolpgaaGreatDoor
