/- The walk of the reference's signs of one. The walk of the reference's levels. The reference's expressions and statements at any depth; the walk of its Parse. ScopeTexts: the walk of the statement. -/
import Derived.Test.YtpbkeamjdolpgaaGreatDoorZa07
import Derived.Deep.RegionWith
import Derived.Deep.CutRange
import Derived.Test.YtpbkeamjdolpgaaGreatDoorZa02
import Derived.Test.YtpbkeamjdolpgaaGreatDoorZa06
namespace Go.Proofs.YtpbkeamjdolpgaaGreatDoor
open Go.RowKit Go.Lib Go.Shelf
theorem cell_set4 {w : World} {b a o : Nat} {v v0 v1 v2 v3 : Value} (h : w.cell? ⟨a, o, none⟩ = some v) (hn : a ≠ b) : ((((w.setCell ⟨b, 0, none⟩ v0).setCell ⟨b, 1, none⟩ v1).setCell ⟨b, 2, none⟩ v2).setCell ⟨b, 3, none⟩ v3).cell? ⟨a, o, none⟩ = some v :=
  (World.cell?_of_block (set4_oth hn)).trans h
def OpF (C : Ctx) (g len q : Nat) (tx : List UInt8) (w' : World) : Prop := w'.cell? ⟨C.pb, 1, none⟩ = some (.slice (some ⟨g, 0, none⟩) len C.c) ∧ w'.cell? ⟨C.pb, 2, none⟩ = some (.int .i64 q) ∧ w'.cell? ⟨g, q * 3 + 1, none⟩ = some (.string ⟨tx.toArray⟩)
theorem NSt.opf {C : Ctx} {w W : World} {q g len : Nat} {bs : List Bx} {tx : List UInt8} (h : NSt C w W false q bs) (hx : C.x = some ⟨g, 0, none⟩) (hlen : C.ts.length = len) (htx : textT C.ts q = tx) (hq : q < C.ts.length) : OpF C g len q tx W := by
  obtain ⟨c0, c1, c2, c3, _⟩ := h.st.cellsF
  obtain ⟨t, ht⟩ : ∃ t, C.ts[q]? = some t := ⟨C.ts[q]'hq, List.getElem?_eq_getElem hq⟩
  obtain ⟨g', hx', k0, k1, k2⟩ := h.st.row q t ht
  rw [hx] at hx'
  cases hx'
  refine ⟨by rw [← hx, ← hlen]; exact c1, c2, ?_⟩
  have e2 : t.2.1 = tx := by
    unfold textT at htx
    rw [ht] at htx
    exact htx
  rw [← e2]
  exact k1
theorem NSt.drew {C : Ctx} {w W : World} {b : Bool} {p : Nat} {bs : List Bx} (h : NSt C w W b p bs) : NSt C w W.drew b p bs := h.below (Below.drew (Below.refl _ _))
theorem op_place {C : Ctx} {w W0 W : World} {q g len pl : Nat} {bs : List Bx} {tx : List UInt8} (h : NSt C w W false q bs) (ho : Ow C.pb W0 W) (hx : C.x = some ⟨g, 0, none⟩) (hlen : C.ts.length = len) (htx : textT C.ts q = tx) (hq : q < C.ts.length) (hpl : placeT C.ts C.s.size q = pl) :
    Calls Tryz.prog 81 #[.pointer (some ⟨C.pb, 0, none⟩)] W fun e w' => e = .returned (.int .i64 pl) ∧ OpF C g len q tx w' ∧ NSt C w w' false q bs ∧ Ow C.pb W0 w' :=
  (rplace_any C false q W h.st).mono fun e w' ⟨h1, h2⟩ => ⟨by rw [h1, hpl], (h.below h2).opf hx hlen htx hq, h.below h2, ho.below h2⟩
theorem op_place_z {C : Ctx} {w W0 W : World} {q g len pl a : Nat} {bs : List Bx} {tx : List UInt8} {v0 v1 v2 v3 : Value} (h : NSt C w W false q ((a, v0, v1, v2, v3) :: bs)) (ho : Ow C.pb W0 W) (hx : C.x = some ⟨g, 0, none⟩) (hlen : C.ts.length = len) (htx : textT C.ts q = tx) (hq : q < C.ts.length) (hpl : placeT C.ts C.s.size q = pl) :
    Calls Tryz.prog 81 #[.pointer (some ⟨C.pb, 0, none⟩)] W fun e w' => e = .returned (.int .i64 pl) ∧ OpF C g len q tx w' ∧ BoxF w' a v0 v1 v2 v3 ∧ NSt C w w' false q ((a, v0, v1, v2, v3) :: bs) ∧ Ow C.pb W0 w' :=
  (op_place h ho hx hlen htx hq hpl).mono fun _ _ ⟨h1, h2, h3, h4⟩ => ⟨h1, h2, h3.at_ (List.Mem.head _), h3, h4⟩
theorem index_out {C : Ctx} {ex : Nat → Res Nd} {x : Nd} {f p : Nat} {b : Bool} (hne : Tot (indexL C.ts C.s.size ex f x) b p ≠ .out) (hi : (!b && isT C.ts p [91]) = false) : Mt (Tot (indexL C.ts C.s.size ex f x) b p) b p x := by
  cases b
  · have h1 : isT C.ts p [91] = false := by simpa using hi
    rw [tot_go] at hne ⊢
    cases f with
    | zero => exact absurd rfl hne
    | succ f =>
      rw [indexL, h1]
      exact ⟨rfl, rfl, rfl⟩
  · exact ⟨rfl, rfl⟩
theorem Rw.less {B : Nat} {W : World} {ads ads' : List Nat} {l : List Nd} {y : Option Addr} (h : Rw B W ads l y) (hs : ∀ a ∈ ads', a ∈ ads) : Rw B W ads' l y := NdRow.wide h fun _ h _ => ⟨h.1, fun hm => h.2 (hs _ hm)⟩
set_option maxHeartbeats 4000000 in
set_option maxRecDepth 100000 in
theorem runary_step (C : Ctx) (ex : Nat → Res Nd) (hx : ROneQ C 87 ex) (f : Nat) (hf : f ≤ 8192) (gf : Nat) (ih : ∀ k, gf = k + 1 → ROne C 181 (unaryL C.ts C.s.size ex f k)) : ROne C 181 (unaryL C.ts C.s.size ex f gf) := by
  intro w b p h hne
  obtain ⟨R, hR⟩ : ∃ R, Tot (unaryL C.ts C.s.size ex f gf) b p = R := ⟨_, rfl⟩
  have HT : Hid (R = Tot (unaryL C.ts C.s.size ex f gf) b p) := hj hR.symm
  rw [hR] at hne
  have HR := hj hR
  have HNE := hj hne
  have HHX := hj hx
  have FD : Hid (NSt C w w b p []) := NSt.start h
  clear hR hne h hx
  have HIH := hj ih
  clear ih
  go_enter Tryz.func181, Tryz.ntmps181
  go_upto_region 1 with (fail)
  have JB : Hid (NSt C w (World.alloc w (.cells #[.int .i64 0, .string ⟨#[]⟩, .slice none 0 0, .int .i64 0] 53)) b p [zB w.heap.size]) := hj (FD.out.alloc _ _ _ _)
  clear FD
  generalize World.alloc w (.cells #[.int .i64 0, .string ⟨#[]⟩, .slice none 0 0, .int .i64 0] 53) = W95 at JB ⊢
  have c96 := ris_any C b p [45] W95 JB.out.st
  obtain ⟨E97, qC⟩ : ∃ E, (!b && isT C.ts p [45]) = E := ⟨_, rfl⟩
  rw [qC] at c96
  have GD := hj qC
  clear qC
  go_wp2_with fail
  (with_reducible refine c96.mono ?_)
  clear c96
  rintro e V99 ⟨rfl, rC⟩
  have oB := JB.out.st.below rC
  have pB : Ow C.pb W95 V99 := Ow.of_below rC
  clear rC
  have DB : Hid (NSt C w V99 b p [zB w.heap.size]) := hj (JB.out.call oB pB)
  clear JB pB oB
  have sC := ris_any C b p [33] V99 DB.out.st
  obtain ⟨WD, KB⟩ : ∃ E, (!b && isT C.ts p [33]) = E := ⟨_, rfl⟩
  rw [KB] at sC
  have qB := hj KB
  clear KB
  go_wp2_with fail
  (with_reducible refine sC.mono ?_)
  clear sC
  rintro e FA ⟨rfl, LB⟩
  have MB := DB.out.st.below LB
  have NB : Ow C.pb V99 FA := Ow.of_below LB
  clear LB
  have EA : Hid (NSt C w FA b p [zB w.heap.size]) := hj (DB.out.call MB NB)
  clear DB NB MB
  cases E97
  · cases WD
    · have hD : Hid (R = (Tot (atomO C.ts C.s.size ex f) b p).bind fun x q => indexL C.ts C.s.size ex f x q) := by
        show R = _
        rw [HT.out]
        cases b
        · have h1 := GD.out
          have h2 := qB.out
          simp only [Bool.not_false, Bool.true_and] at h1 h2
          cases gf with
          | zero => exact absurd HT.out HNE.out
          | succ k =>
            rw [tot_go, tot_go, unaryL, h1, h2]
            rfl
        · rfl
      clear HT
      have tC := ratom_any C ex HHX.out f hf _ _ _ EA.out.st (fun e => HNE.out (by rw [hD.out, e]; rfl))
      unfold RFinN at tC
      go_wp2_with fail
      (with_reducible refine tC.mono ?_)
      clear tC
      rintro e AA ⟨vA, wA, xA, yA, hA, fA, oA, iA, rB, rfl, sB, tB, vB⟩
      have wB : Hid (NSt C w AA vA wA [zB w.heap.size]) := hj (EA.out.call tB vB)
      have xB : Hid (Rw w.heap.size AA [w.heap.size] hA oA) := hj (EA.out.row EA.out.ow.size sB)
      clear EA vB tB sB
      have jD : Hid (R = Tot (indexL C.ts C.s.size ex f (.mk xA yA hA fA)) vA wA) := by
        show R = _
        rw [hD.out, rB.bind]
      clear rB hD
      go_upto_region 10 with (fail)
      have jA : Hid (NSt C w (World.alloc AA (.cells #[.int .i64 xA, .string ⟨yA.toArray⟩, .slice oA hA.length iA, .int .i64 fA] 53)) vA wA [nB AA.heap.size xA yA oA hA iA fA, zB w.heap.size]) := hj (wB.out.alloc _ _ _ _)
      have OB : Hid (Rw w.heap.size (World.alloc AA (.cells #[.int .i64 xA, .string ⟨yA.toArray⟩, .slice oA hA.length iA, .int .i64 fA] 53)) [AA.heap.size, w.heap.size] hA oA) := hj (xB.out.alloc _)
      clear wB xB
      generalize World.alloc AA (.cells #[.int .i64 xA, .string ⟨yA.toArray⟩, .slice oA hA.length iA, .int .i64 fA] 53) = HD at jA OB ⊢
      have vC := ris_any C vA wA [91] HD jA.out.st
      obtain ⟨XD, PB⟩ : ∃ E, (!vA && isT C.ts wA [91]) = E := ⟨_, rfl⟩
      rw [PB] at vC
      have yB := hj PB
      clear PB
      go_wp2_with fail
      (with_reducible refine vC.mono ?_)
      clear vC
      rintro e wC ⟨rfl, QB⟩
      have SB := jA.out.st.below QB
      have zA : Ow C.pb HD wC := Ow.of_below QB
      clear QB
      have AC : Hid (NSt C w wC vA wA [nB AA.heap.size xA yA oA hA iA fA, zB w.heap.size]) := hj (jA.out.call SB zA)
      have BC : Hid (Rw w.heap.size wC [AA.heap.size, w.heap.size] hA oA) := hj (OB.out.call jA.out.pb zA)
      clear jA OB zA SB
      go_wp2_with fail
      go_loopg [8] f (fun g u wx => ∃ (E b : Bool) (q f0 : Nat) (k : Int) (n : List UInt8) (kids : List Nd) (y : Option Addr) (c : Cp kids.length) (pp : Int), u = .bool E ∧ NSt C w wx b q [nB AA.heap.size k n y kids c pp, zB w.heap.size] ∧ Rw w.heap.size wx [AA.heap.size, w.heap.size] kids y ∧ Hid (R = Tot (indexL C.ts C.s.size ex f0 (.mk k n kids pp)) b q) ∧ Hid ((!b && isT C.ts q [91]) = E) ∧ f0 ≤ g)
      case atStart => exact ⟨XD, vA, wA, f, xA, yA, hA, oA, iA, fA, rfl, AC.out, BC.out, jD, yB, Nat.le_refl _⟩
      case round =>
        clear AC BC jD yB
        obtain ⟨E, b9, q, f0, k, n, kids, y, c, pp, rfl, hN, hK, hS, hE, BE⟩ := hrel
        have HNr := hj hN
        have HKr := hj hK
        clear hN hK
        cases E
        · have HM : Hid (Mt R b9 q (.mk k n kids pp)) := by
            show Mt _ _ _ _
            have hne := HNE.out
            rw [hS.out] at hne ⊢
            exact index_out hne hE.out
          clear hS hE BE
          obtain ⟨x0, x1, x2, x3, xf⟩ : BoxF wr (AA.heap.size) (.int .i64 k) (.string ⟨n.toArray⟩) (.slice y kids.length c) (.int .i64 pp) := HNr.out.at_ (List.Mem.head _)
          obtain ⟨r0, r1, r2, r3, rf⟩ : BoxF wr (w.heap.size) (.int .i64 0) (.string ⟨#[]⟩) (.slice none 0 0) (.int .i64 0) := HNr.out.at_ (List.Mem.tail _ (List.Mem.head _))
          have CC : Hid (NSt C w (S4 wr w.heap.size (.int .i64 k) (.string ⟨n.toArray⟩) (.slice y kids.length c) (.int .i64 pp)) b9 q [nB AA.heap.size k n y kids c pp, nB w.heap.size k n y kids c pp]) := hj (NSt.set4 (pre := [nB AA.heap.size k n y kids c pp]) HNr.out)
          have DC : Hid (Rw w.heap.size (S4 wr w.heap.size (.int .i64 k) (.string ⟨n.toArray⟩) (.slice y kids.length c) (.int .i64 pp)) [AA.heap.size, w.heap.size] kids y) := hj (HKr.out.set4 (List.Mem.tail _ (List.Mem.head _)))
          have HW : Hid (w.heap.size ≤ w.heap.size) := hj (Nat.le_refl _)
          have HF : Hid (RFinN C w (unaryL C.ts C.s.size ex f gf) b p (.returned (.agg #[.int .i64 k, .string ⟨n.toArray⟩, .slice y kids.length c, .int .i64 pp])) (S4 wr w.heap.size (.int .i64 k) (.string ⟨n.toArray⟩) (.slice y kids.length c) (.int .i64 pp))) := hj (NSt.fin (n := n) (l := kids) CC.out HW.out (by rw [HR.out]; exact HM.out) DC.out)
          clear HNr CC HW HM DC HKr
          go_wp2_with fail
          exact ret_node rfl rfl rfl (by simp [go_sem, r0]) (by simp [go_sem, r1]) (by simp [go_sem, r2]) (by simp [go_sem, r3]) HF.out
        · obtain ⟨rfl, hi⟩ : b9 = false ∧ isT C.ts q [91] = true := by
            have := hE.out
            cases b9 <;> simp_all
          have HI := hj hi
          clear hi hE
          obtain ⟨f1, rfl⟩ : ∃ f1, f0 = f1 + 1 := by
            cases f0 with
            | zero => exact absurd hS.out HNE.out
            | succ f1 => exact ⟨f1, rfl⟩
          have hD : Hid (R = (Tot ex false (q + 1)).bind fun y' r => (takeP C.ts C.s.size [93] r).bind fun _ e => indexL C.ts C.s.size ex f1 (.mk 14 [] [.mk k n kids pp, y'] (placeT C.ts C.s.size q)) e) := by
            show R = _
            rw [hS.out, tot_go, indexL, if_pos HI.out]
            rfl
          clear hS
          have xC := rtake_any C false q [91] wr HNr.out.st
          obtain ⟨bA, AB⟩ : ∃ pl, placeT C.ts C.s.size q = pl := ⟨_, rfl⟩
          rw [AB] at xC
          have TB := hj AB
          clear AB
          go_wp2_with fail
          (with_reducible refine xC.mono ?_)
          clear xC
          rintro e ID ⟨YD, ZD, dD, EC, rfl, FC, UB⟩
          have hM137' := EC.place
          rw [TB.out] at hM137'
          clear EC
          have kA : Hid (NSt C w ID YD ZD [nB AA.heap.size k n y kids c pp, zB w.heap.size]) := hj (HNr.out.call FC UB)
          have GC : Hid (Rw w.heap.size ID [AA.heap.size, w.heap.size] kids y) := hj (HKr.out.call HNr.out.pb UB)
          clear HNr HKr UB FC
          obtain ⟨rfl, rfl⟩ := take_t HI.out hM137'
          clear hM137'
          have yC := HHX.out _ _ _ kA.out.st (fun e => HNE.out (by rw [hD.out, e]; rfl)) ⟨_, fun e => HNE.out (by rw [hD.out, tot_go, e]; rfl)⟩
          unfold RFinN at yC
          go_wp2_with fail
          (with_reducible refine yC.mono ?_)
          clear yC
          rintro e VA ⟨lB, VB, MA, NA, GA, BA, WA, HA, HC, rfl, IC, JC, WB⟩
          have KC : Hid (NSt C w VA lB VB [nB AA.heap.size k n y kids c pp, zB w.heap.size]) := hj (kA.out.call JC WB)
          have LC : Hid (Rw w.heap.size VA [AA.heap.size, w.heap.size] kids y) := hj (GC.out.call kA.out.pb WB)
          have MC : Hid (Rw w.heap.size VA [AA.heap.size, w.heap.size] GA WA) := hj (kA.out.row kA.out.ow.size IC)
          clear kA GC WB JC IC
          have jD : Hid (R = (Tot (takeP C.ts C.s.size [93]) lB VB).bind fun _ e => indexL C.ts C.s.size ex f1 (.mk 14 [] [.mk k n kids pp, (.mk MA NA GA BA)] (bA : Int)) e) := by
            show R = _
            rw [hD.out, HC.bind, TB.out, ← tot_bind]
          clear HC hD
          go_upto_region 14 with (fail)
          have lA : Hid (NSt C w (World.alloc VA (.cells #[.int .i64 MA, .string ⟨NA.toArray⟩, .slice WA GA.length HA, .int .i64 BA] 53)) lB VB [nB VA.heap.size MA NA WA GA HA BA, nB AA.heap.size k n y kids c pp, zB w.heap.size]) := hj (KC.out.alloc _ _ _ _)
          have XB : Hid (Rw w.heap.size (World.alloc VA (.cells #[.int .i64 MA, .string ⟨NA.toArray⟩, .slice WA GA.length HA, .int .i64 BA] 53)) [VA.heap.size, AA.heap.size, w.heap.size] kids y) := hj (LC.out.alloc _)
          have YB : Hid (Rw w.heap.size (World.alloc VA (.cells #[.int .i64 MA, .string ⟨NA.toArray⟩, .slice WA GA.length HA, .int .i64 BA] 53)) [VA.heap.size, AA.heap.size, w.heap.size] GA WA) := hj (MC.out.alloc _)
          clear KC LC MC
          generalize World.alloc VA (.cells #[.int .i64 MA, .string ⟨NA.toArray⟩, .slice WA GA.length HA, .int .i64 BA] 53) = aD at lA XB YB ⊢
          have zC := rtake_any C lB VB [93] aD lA.out.st
          obtain ⟨cD, BB⟩ : ∃ pl, placeT C.ts C.s.size VB = pl := ⟨_, rfl⟩
          rw [BB] at zC
          have AD := hj BB
          clear BB
          go_wp2_with fail
          (with_reducible refine zC.mono ?_)
          clear zC
          rintro e OA ⟨pA, qA, eD, NC, rfl, OC, EB⟩
          have hM169' := NC.place
          rw [AD.out] at hM169'
          clear NC
          have gA : Hid (NSt C w OA pA qA [nB VA.heap.size MA NA WA GA HA BA, nB AA.heap.size k n y kids c pp, zB w.heap.size]) := hj (lA.out.call OC EB)
          have PC : Hid (Rw w.heap.size OA [VA.heap.size, AA.heap.size, w.heap.size] kids y) := hj (XB.out.call lA.out.pb EB)
          have QC : Hid (Rw w.heap.size OA [VA.heap.size, AA.heap.size, w.heap.size] GA WA) := hj (YB.out.call lA.out.pb EB)
          clear lA XB YB EB OC
          have CE : Hid (R = Tot (indexL C.ts C.s.size ex f1 (.mk 14 [] [.mk k n kids pp, (.mk MA NA GA BA)] (bA : Int))) pA qA) := by
            show R = _
            rw [jD.out, hM169'.bind]
          clear hM169' jD
          obtain ⟨x0, x1, x2, x3, xf⟩ : BoxF OA (AA.heap.size) (.int .i64 k) (.string ⟨n.toArray⟩) (.slice y kids.length c) (.int .i64 pp) := gA.out.at_ (List.Mem.tail _ (List.Mem.head _))
          obtain ⟨z0, z1, z2, z3, zf⟩ : BoxF OA (VA.heap.size) (.int .i64 MA) (.string ⟨NA.toArray⟩) (.slice WA GA.length HA) (.int .i64 BA) := gA.out.at_ (List.Mem.head _)
          have DE := fun o => al_cell x0 o
          have EE := fun o => al_cell x1 o
          have FE := fun o => al_cell x2 o
          have GE := fun o => al_cell x3 o
          have xaf : ∀ ob o, (World.alloc OA ob).frozen? ⟨AA.heap.size, o, none⟩ = false := fun ob o => ((gA.out.bx _ (List.Mem.tail _ (List.Mem.head _))).2.alloc ob).facts.2.2.2.2 o
          go_upto_region 16 with (fail)
          clear x0 x1 x2 x3 xf z0 z1 z2 z3 zf
          clear DE EE FE GE xaf
          have RC : Hid (Rw w.heap.size (World.alloc OA (.cells #[.int .i64 k, .string ⟨n.toArray⟩, .slice y kids.length c, .int .i64 pp, .int .i64 MA, .string ⟨NA.toArray⟩, .slice WA GA.length HA, .int .i64 BA] 53)) [VA.heap.size, AA.heap.size, w.heap.size] [.mk k n kids pp, (.mk MA NA GA BA)] (some ⟨OA.heap.size, 0, none⟩)) := hj (Rw.two gA.out gA.out.ow.size PC.out QC.out)
          have SC : Hid (NSt C w (World.alloc OA (.cells #[.int .i64 k, .string ⟨n.toArray⟩, .slice y kids.length c, .int .i64 pp, .int .i64 MA, .string ⟨NA.toArray⟩, .slice WA GA.length HA, .int .i64 BA] 53)) pA qA [nB VA.heap.size MA NA WA GA HA BA, nB AA.heap.size k n y kids c pp, zB w.heap.size]) := hj (gA.out.blk _)
          clear gA PC QC
          have ZB : Hid (NSt C w ((World.setCell (World.setCell (World.setCell (World.setCell (World.alloc OA (.cells #[.int .i64 k, .string ⟨n.toArray⟩, .slice y kids.length c, .int .i64 pp, .int .i64 MA, .string ⟨NA.toArray⟩, .slice WA GA.length HA, .int .i64 BA] 53)) ⟨AA.heap.size, 0, none⟩ (.int .i64 14)) ⟨AA.heap.size, 1, none⟩ (.string ⟨#[]⟩)) ⟨AA.heap.size, 2, none⟩ (.slice (some ⟨OA.heap.size, 0, none⟩) 2 2)) ⟨AA.heap.size, 3, none⟩ (.int .i64 bA))) pA qA [nB VA.heap.size MA NA WA GA HA BA, (AA.heap.size, .int .i64 14, .string ⟨#[]⟩, .slice (some ⟨OA.heap.size, 0, none⟩) 2 2, .int .i64 bA), zB w.heap.size]) := hj (NSt.set4 (pre := [nB VA.heap.size MA NA WA GA HA BA]) SC.out)
          have aB : Hid (Rw w.heap.size ((World.setCell (World.setCell (World.setCell (World.setCell (World.alloc OA (.cells #[.int .i64 k, .string ⟨n.toArray⟩, .slice y kids.length c, .int .i64 pp, .int .i64 MA, .string ⟨NA.toArray⟩, .slice WA GA.length HA, .int .i64 BA] 53)) ⟨AA.heap.size, 0, none⟩ (.int .i64 14)) ⟨AA.heap.size, 1, none⟩ (.string ⟨#[]⟩)) ⟨AA.heap.size, 2, none⟩ (.slice (some ⟨OA.heap.size, 0, none⟩) 2 2)) ⟨AA.heap.size, 3, none⟩ (.int .i64 bA))) [VA.heap.size, AA.heap.size, w.heap.size] [.mk k n kids pp, (.mk MA NA GA BA)] (some ⟨OA.heap.size, 0, none⟩)) := hj (RC.out.set4 (List.Mem.tail _ (List.Mem.head _)))
          clear SC RC
          generalize (World.setCell (World.setCell (World.setCell (World.setCell (World.alloc OA (.cells #[.int .i64 k, .string ⟨n.toArray⟩, .slice y kids.length c, .int .i64 pp, .int .i64 MA, .string ⟨NA.toArray⟩, .slice WA GA.length HA, .int .i64 BA] 53)) ⟨AA.heap.size, 0, none⟩ (.int .i64 14)) ⟨AA.heap.size, 1, none⟩ (.string ⟨#[]⟩)) ⟨AA.heap.size, 2, none⟩ (.slice (some ⟨OA.heap.size, 0, none⟩) 2 2)) ⟨AA.heap.size, 3, none⟩ (.int .i64 bA)) = mB at ZB aB ⊢
          have rA : Hid (NSt C w mB pA qA [(AA.heap.size, .int .i64 14, .string ⟨#[]⟩, .slice (some ⟨OA.heap.size, 0, none⟩) 2 2, .int .i64 bA), zB w.heap.size]) := hj (ZB.out.sub (List.Sublist.cons _ (List.Sublist.refl _)))
          clear ZB
          have TC : Hid (Rw w.heap.size mB [AA.heap.size, w.heap.size] [.mk k n kids pp, (.mk MA NA GA BA)] (some ⟨OA.heap.size, 0, none⟩)) := hj (aB.out.less (fun a ha => List.Mem.tail _ ha))
          clear aB
          have BD := ris_any C pA qA [91] mB rA.out.st
          obtain ⟨bD, bB⟩ : ∃ E, (!pA && isT C.ts qA [91]) = E := ⟨_, rfl⟩
          rw [bB] at BD
          have JD := hj bB
          clear bB
          go_wp2_with fail
          (with_reducible refine BD.mono ?_)
          clear BD
          rintro e CD ⟨rfl, dB⟩
          have eB := rA.out.st.below dB
          have CB : Ow C.pb mB CD := Ow.of_below dB
          clear dB
          have KD : Hid (NSt C w CD pA qA [(AA.heap.size, .int .i64 14, .string ⟨#[]⟩, .slice (some ⟨OA.heap.size, 0, none⟩) 2 2, .int .i64 bA), zB w.heap.size]) := hj (rA.out.call eB CB)
          have LD : Hid (Rw w.heap.size CD [AA.heap.size, w.heap.size] [.mk k n kids pp, (.mk MA NA GA BA)] (some ⟨OA.heap.size, 0, none⟩)) := hj (TC.out.call rA.out.pb CB)
          clear rA TC CB eB
          go_wp2_with fail
          go_roundg (gk - 1)
          case measure => omega
          case rel => exact ⟨bD, pA, qA, f1, 14, [], [.mk k n kids pp, (.mk MA NA GA BA)], (some ⟨OA.heap.size, 0, none⟩), ⟨2, Nat.le_refl _⟩, (bA : Int), rfl, KD.out, LD.out, CE, JD, by omega⟩
    · obtain ⟨rfl, hHI⟩ : b = false ∧ isT C.ts p [33] = true := by
        have := qB.out
        cases b <;> simp_all
      have HI := hj hHI
      clear hHI
      have HS : Hid ((isT C.ts p [45] || isT C.ts p [33]) = true) := by
        show _ = true
        rw [HI.out]
        simp
      have HPN : Hid (p < C.ts.length) := isT_lt HI.out
      obtain ⟨gf, rfl⟩ : ∃ k, gf = k + 1 := by
        cases gf with
        | zero => exact absurd HT.out HNE.out
        | succ k => exact ⟨k, rfl⟩
      obtain ⟨tx, htx⟩ : ∃ tx, textT C.ts p = tx := ⟨_, rfl⟩
      obtain ⟨pl, hpl⟩ : ∃ pl, placeT C.ts C.s.size p = pl := ⟨_, rfl⟩
      have HTX := hj htx
      have HPL := hj hpl
      clear htx hpl
      go_upto_region 4 with (fail)
      go_cut [5] from 19 to 33 (fun v wx => ∃ a : Nat, v = .pointer (some ⟨a, 0, none⟩) ∧ NSt C w wx false p [(a, .int .i64 12, .string ⟨tx.toArray⟩, .slice none 0 0, .int .i64 pl), zB w.heap.size])
      case first =>
        obtain ⟨t, ht⟩ : ∃ t, C.ts[p]? = some t := ⟨C.ts[p]'HPN.out, List.getElem?_eq_getElem _⟩
        obtain ⟨g1, hx, -, -, -⟩ := EA.out.st.row p t ht
        obtain ⟨len, hlen⟩ : ∃ len, C.ts.length = len := ⟨_, rfl⟩
        obtain ⟨f1, f2, f3⟩ := EA.out.opf hx hlen HTX.out HPN.out
        have cB := op_place EA.out.drew ((Ow.refl C.pb FA).drew) hx hlen HTX.out HPN.out HPL.out
        have cA := op_place_z (EA.out.alloc (.int .i64 0) (.string ⟨#[]⟩) (.slice none 0 0) (.int .i64 0)).drew ((Ow.refl C.pb (FA.alloc (.cells #[.int .i64 0, .string ⟨#[]⟩, .slice none 0 0, .int .i64 0] 53))).drew) hx hlen HTX.out HPN.out HPL.out
        have hp : p < len := by have := HPN.out; omega
        have hl : len ≤ 4096 := by have := EA.out.st.len; omega
        have kD := fun o => al_cell f1 o
        have lD := fun o => al_cell f2 o
        have mD := fun o => al_cell f3 o
        have nD : C.pb ≠ FA.heap.size := by have := EA.out.st.lt; omega
        have oD : g1 ≠ FA.heap.size := by
          have h : g1 < FA.heap.size := World.block_lt_of_cell? FA _ f3
          omega
        have d1 : (FA.drew).cell? ⟨C.pb, 1, none⟩ = some (.slice (some ⟨g1, 0, none⟩) len C.c) := f1
        have d2 : (FA.drew).cell? ⟨C.pb, 2, none⟩ = some (.int .i64 p) := f2
        have d3 : (FA.drew).cell? ⟨g1, p * 3 + 1, none⟩ = some (.string ⟨tx.toArray⟩) := f3
        have pD : ∀ o, (FA.alloc o).drew.cell? ⟨C.pb, 1, none⟩ = some (.slice (some ⟨g1, 0, none⟩) len C.c) := kD
        have qD : ∀ o, (FA.alloc o).drew.cell? ⟨C.pb, 2, none⟩ = some (.int .i64 p) := lD
        have rD : ∀ o, (FA.alloc o).drew.cell? ⟨g1, p * 3 + 1, none⟩ = some (.string ⟨tx.toArray⟩) := mD
        clear ht hx hlen
        go_region_held3 (fun w' => w'.cell? ⟨C.pb, 1, none⟩ = some (.slice (some ⟨g1, 0, none⟩) len C.c) ∧ w'.cell? ⟨C.pb, 2, none⟩ = some (.int .i64 p) ∧ w'.cell? ⟨g1, p * 3 + 1, none⟩ = some (.string ⟨tx.toArray⟩)) (first | with_reducible exact ⟨f1, f2, f3⟩ | with_reducible exact ⟨d1, d2, d3⟩ | with_reducible exact ⟨pD _, qD _, rD _⟩ | with_reducible exact ⟨kD _, lD _, mD _⟩ | with_reducible exact ⟨sD _, tD _, vD _⟩ | with_reducible exact ⟨cell_set4 f1 nD, cell_set4 f2 nD, cell_set4 f3 oD⟩) (first | (go_at_call 81; (with_reducible refine cA.mono ?_); rintro e w6 ⟨rfl, ⟨f1, f2, f3⟩, ⟨g0, g1c, g2c, g3c, gf⟩, iD, wD⟩) | (go_at_call 81; (with_reducible refine cB.mono ?_); rintro e w6 ⟨rfl, ⟨f1, f2, f3⟩, iD, wD⟩; have sD := fun o => al_cell f1 o; have tD := fun o => al_cell f2 o; have vD := fun o => al_cell f3 o))
        all_goals go_wp2_with fail
        all_goals go_meet
        all_goals (first | exact ⟨_, rfl, iD.alloc _ _ _ _⟩ | exact ⟨_, rfl, NSt.set4 (pre := []) iD⟩)
      case rest =>
        obtain ⟨a, rfl, hN⟩ := hcut
        have HNc := hj hN
        clear hN
        clear EA
        have hD : Hid (R = (Tot (unaryL C.ts C.s.size ex f gf) false (p + 1)).bind fun x q => .ok (.mk 12 tx [x] (pl : Int)) q) := by
          show R = _
          rw [HT.out, tot_go, unaryL, if_pos HS.out, HTX.out, HPL.out]
          rfl
        clear HT
        obtain ⟨MD, ND, UC, OD⟩ : wc.cell? ⟨C.pb, 2, none⟩ = some (.int .i64 p) ∧ wc.frozen? ⟨C.pb, 2, none⟩ = false ∧ p < C.ts.length ∧ C.ts.length ≤ 4096 := ⟨HNc.out.st.cellsF.2.2.1, HNc.out.st.cellsF.2.2.2.2.1, HPN.out, HNc.out.st.len⟩
        have PD : IntKind.i64.wrap ((p : Int) + 1) = (p : Int) + 1 := IntWalk.i64_in _ (by omega)
        have QD := hj UC
        clear UC OD
        go_upto_region 6 with (fail)
        clear MD ND PD
        have mA : Hid (NSt C w (World.setCell wc ⟨C.pb, 2, none⟩ (.int .i64 ((p : Int) + 1))) false (p + 1) [(a, .int .i64 12, .string ⟨tx.toArray⟩, .slice none 0 0, .int .i64 pl), zB w.heap.size]) := hj (HNc.out.step (q := p + 1) QD.out)
        clear HNc
        generalize World.setCell wc ⟨C.pb, 2, none⟩ (.int .i64 ((p : Int) + 1)) = fD at mA ⊢
        have DD := HIH.out gf rfl _ _ _ mA.out.st (fun e => HNE.out (by rw [hD.out, e]; rfl))
        unfold RFinN at DD
        go_wp2_with fail
        (with_reducible refine DD.mono ?_)
        clear DD
        rintro e ZA ⟨FB, GB, RA, SA, PA, CA, XA, IA, VC, rfl, WC, XC, YC⟩
        have ZC : Hid (NSt C w ZA FB GB [(a, .int .i64 12, .string ⟨tx.toArray⟩, .slice none 0 0, .int .i64 pl), zB w.heap.size]) := hj (mA.out.call XC YC)
        have aC : Hid (Rw w.heap.size ZA [a, w.heap.size] PA XA) := hj (mA.out.row mA.out.ow.size WC)
        clear mA YC XC WC
        have HM : Hid (Mt R FB GB (.mk 12 tx [(.mk RA SA PA CA)] (pl : Int))) := by
          show Mt _ _ _ _
          rw [hD.out, VC.bind]
          exact Mt.ret _ _ _
        clear VC hD
        go_upto_region 7 with (fail)
        have dA : Hid (NSt C w (World.alloc ZA (.cells #[.int .i64 RA, .string ⟨SA.toArray⟩, .slice XA PA.length IA, .int .i64 CA] 53)) FB GB [nB ZA.heap.size RA SA XA PA IA CA, (a, .int .i64 12, .string ⟨tx.toArray⟩, .slice none 0 0, .int .i64 pl), zB w.heap.size]) := hj (ZC.out.alloc _ _ _ _)
        have fB : Hid (Rw w.heap.size (World.alloc ZA (.cells #[.int .i64 RA, .string ⟨SA.toArray⟩, .slice XA PA.length IA, .int .i64 CA] 53)) [ZA.heap.size, a, w.heap.size] PA XA) := hj (aC.out.alloc _)
        clear ZC aC
        generalize World.alloc ZA (.cells #[.int .i64 RA, .string ⟨SA.toArray⟩, .slice XA PA.length IA, .int .i64 CA] 53) = JA at dA fB ⊢
        obtain ⟨u00, u01, u02, u03, u0f⟩ : BoxF JA (ZA.heap.size) (.int .i64 RA) (.string ⟨SA.toArray⟩) (.slice XA PA.length IA) (.int .i64 CA) := dA.out.at_ (List.Mem.head _)
        obtain ⟨n0, n1, n2, n3, nf⟩ : BoxF JA a (.int .i64 12) (.string ⟨tx.toArray⟩) (.slice none 0 0) (.int .i64 pl) := dA.out.at_ (List.Mem.tail _ (List.Mem.head _))
        have xD := fun o => al_cell n0 o
        have yD := fun o => al_cell n1 o
        have zD := fun o => al_cell n2 o
        have AE := fun o => al_cell n3 o
        have naf : ∀ ob o, (World.alloc JA ob).frozen? ⟨a, o, none⟩ = false := fun ob o => ((dA.out.bx _ (List.Mem.tail _ (List.Mem.head _))).2.alloc ob).facts.2.2.2.2 o
        go_upto_region 8 with (fail)
        clear n0 n1 n2 n3 nf u00 u01 u02 u03 u0f
        clear xD yD zD AE naf
        have bC : Hid (Rw w.heap.size (World.alloc JA (.cells #[.int .i64 RA, .string ⟨SA.toArray⟩, .slice XA PA.length IA, .int .i64 CA] 53)) [ZA.heap.size, a, w.heap.size] [(.mk RA SA PA CA)] (some ⟨JA.heap.size, 0, none⟩)) := hj (Rw.one dA.out dA.out.ow.size fB.out)
        have cC : Hid (NSt C w (World.alloc JA (.cells #[.int .i64 RA, .string ⟨SA.toArray⟩, .slice XA PA.length IA, .int .i64 CA] 53)) FB GB [nB ZA.heap.size RA SA XA PA IA CA, (a, .int .i64 12, .string ⟨tx.toArray⟩, .slice none 0 0, .int .i64 pl), zB w.heap.size]) := hj (dA.out.blk _)
        clear dA fB
        have sA : Hid (NSt C w (World.setCell (World.alloc JA (.cells #[.int .i64 RA, .string ⟨SA.toArray⟩, .slice XA PA.length IA, .int .i64 CA] 53)) ⟨a, 2, none⟩ (.slice (some ⟨JA.heap.size, 0, none⟩) 1 1)) FB GB [nB ZA.heap.size RA SA XA PA IA CA, (a, .int .i64 12, .string ⟨tx.toArray⟩, .slice (some ⟨JA.heap.size, 0, none⟩) 1 1, .int .i64 pl), zB w.heap.size]) := hj (NSt.set2 (pre := [nB ZA.heap.size RA SA XA PA IA CA]) cC.out)
        have gB : Hid (Rw w.heap.size (World.setCell (World.alloc JA (.cells #[.int .i64 RA, .string ⟨SA.toArray⟩, .slice XA PA.length IA, .int .i64 CA] 53)) ⟨a, 2, none⟩ (.slice (some ⟨JA.heap.size, 0, none⟩) 1 1)) [ZA.heap.size, a, w.heap.size] [(.mk RA SA PA CA)] (some ⟨JA.heap.size, 0, none⟩)) := hj (bC.out.set (List.Mem.tail _ (List.Mem.head _)))
        clear cC bC
        generalize World.setCell (World.alloc JA (.cells #[.int .i64 RA, .string ⟨SA.toArray⟩, .slice XA PA.length IA, .int .i64 CA] 53)) ⟨a, 2, none⟩ (.slice (some ⟨JA.heap.size, 0, none⟩) 1 1) = hB at sA gB ⊢
        obtain ⟨n0, n1, n2, n3, nf⟩ : BoxF hB a (.int .i64 12) (.string ⟨tx.toArray⟩) (.slice (some ⟨JA.heap.size, 0, none⟩) 1 1) (.int .i64 pl) := sA.out.at_ (List.Mem.tail _ (List.Mem.head _))
        obtain ⟨r0, r1, r2, r3, rf⟩ : BoxF hB (w.heap.size) (.int .i64 0) (.string ⟨#[]⟩) (.slice none 0 0) (.int .i64 0) := sA.out.at_ (List.Mem.tail _ (List.Mem.tail _ (List.Mem.head _)))
        have dC : Hid (NSt C w (S4 hB w.heap.size (.int .i64 12) (.string ⟨tx.toArray⟩) (.slice (some ⟨JA.heap.size, 0, none⟩) 1 1) (.int .i64 pl)) FB GB [nB ZA.heap.size RA SA XA PA IA CA, (a, .int .i64 12, .string ⟨tx.toArray⟩, .slice (some ⟨JA.heap.size, 0, none⟩) 1 1, .int .i64 pl), (w.heap.size, .int .i64 12, .string ⟨tx.toArray⟩, .slice (some ⟨JA.heap.size, 0, none⟩) 1 1, .int .i64 pl)]) := hj (NSt.set4 (pre := [nB ZA.heap.size RA SA XA PA IA CA, (a, .int .i64 12, .string ⟨tx.toArray⟩, .slice (some ⟨JA.heap.size, 0, none⟩) 1 1, .int .i64 pl)]) sA.out)
        have eC : Hid (Rw w.heap.size (S4 hB w.heap.size (.int .i64 12) (.string ⟨tx.toArray⟩) (.slice (some ⟨JA.heap.size, 0, none⟩) 1 1) (.int .i64 pl)) [ZA.heap.size, a, w.heap.size] [(.mk RA SA PA CA)] (some ⟨JA.heap.size, 0, none⟩)) := hj (gB.out.set4 (List.Mem.tail _ (List.Mem.tail _ (List.Mem.head _))))
        have HW : Hid (w.heap.size ≤ w.heap.size) := hj (Nat.le_refl _)
        have HF : Hid (RFinN C w (unaryL C.ts C.s.size ex f (gf + 1)) false p (.returned (.agg #[.int .i64 12, .string ⟨tx.toArray⟩, .slice (some ⟨JA.heap.size, 0, none⟩) 1 1, .int .i64 pl])) (S4 hB w.heap.size (.int .i64 12) (.string ⟨tx.toArray⟩) (.slice (some ⟨JA.heap.size, 0, none⟩) 1 1) (.int .i64 pl))) := hj (NSt.fin (n := tx) (l := [(.mk RA SA PA CA)]) dC.out HW.out (by rw [HR.out]; exact HM.out) eC.out)
        clear sA dC HW HM eC gB
        go_wp2_with fail
        exact ret_node rfl rfl rfl (by simp [go_sem, r0]) (by simp [go_sem, r1]) (by simp [go_sem, r2]) (by simp [go_sem, r3]) HF.out
  · obtain ⟨rfl, hHI⟩ : b = false ∧ isT C.ts p [45] = true := by
      have := GD.out
      cases b <;> simp_all
    have HI := hj hHI
    clear hHI
    have HS : Hid ((isT C.ts p [45] || isT C.ts p [33]) = true) := by
      show _ = true
      rw [HI.out]
      rfl
    have HPN : Hid (p < C.ts.length) := isT_lt HI.out
    obtain ⟨gf, rfl⟩ : ∃ k, gf = k + 1 := by
      cases gf with
      | zero => exact absurd HT.out HNE.out
      | succ k => exact ⟨k, rfl⟩
    obtain ⟨tx, htx⟩ : ∃ tx, textT C.ts p = tx := ⟨_, rfl⟩
    obtain ⟨pl, hpl⟩ : ∃ pl, placeT C.ts C.s.size p = pl := ⟨_, rfl⟩
    have HTX := hj htx
    have HPL := hj hpl
    clear htx hpl
    go_upto_region 4 with (fail)
    go_cut [5] from 19 to 33 (fun v wx => ∃ a : Nat, v = .pointer (some ⟨a, 0, none⟩) ∧ NSt C w wx false p [(a, .int .i64 12, .string ⟨tx.toArray⟩, .slice none 0 0, .int .i64 pl), zB w.heap.size])
    case first =>
      obtain ⟨t, ht⟩ : ∃ t, C.ts[p]? = some t := ⟨C.ts[p]'HPN.out, List.getElem?_eq_getElem _⟩
      obtain ⟨g1, hx, -, -, -⟩ := EA.out.st.row p t ht
      obtain ⟨len, hlen⟩ : ∃ len, C.ts.length = len := ⟨_, rfl⟩
      obtain ⟨f1, f2, f3⟩ := EA.out.opf hx hlen HTX.out HPN.out
      have cB := op_place EA.out.drew ((Ow.refl C.pb FA).drew) hx hlen HTX.out HPN.out HPL.out
      have cA := op_place_z (EA.out.alloc (.int .i64 0) (.string ⟨#[]⟩) (.slice none 0 0) (.int .i64 0)).drew ((Ow.refl C.pb (FA.alloc (.cells #[.int .i64 0, .string ⟨#[]⟩, .slice none 0 0, .int .i64 0] 53))).drew) hx hlen HTX.out HPN.out HPL.out
      have hp : p < len := by have := HPN.out; omega
      have hl : len ≤ 4096 := by have := EA.out.st.len; omega
      have kD := fun o => al_cell f1 o
      have lD := fun o => al_cell f2 o
      have mD := fun o => al_cell f3 o
      have nD : C.pb ≠ FA.heap.size := by have := EA.out.st.lt; omega
      have oD : g1 ≠ FA.heap.size := by
        have h : g1 < FA.heap.size := World.block_lt_of_cell? FA _ f3
        omega
      have d1 : (FA.drew).cell? ⟨C.pb, 1, none⟩ = some (.slice (some ⟨g1, 0, none⟩) len C.c) := f1
      have d2 : (FA.drew).cell? ⟨C.pb, 2, none⟩ = some (.int .i64 p) := f2
      have d3 : (FA.drew).cell? ⟨g1, p * 3 + 1, none⟩ = some (.string ⟨tx.toArray⟩) := f3
      have pD : ∀ o, (FA.alloc o).drew.cell? ⟨C.pb, 1, none⟩ = some (.slice (some ⟨g1, 0, none⟩) len C.c) := kD
      have qD : ∀ o, (FA.alloc o).drew.cell? ⟨C.pb, 2, none⟩ = some (.int .i64 p) := lD
      have rD : ∀ o, (FA.alloc o).drew.cell? ⟨g1, p * 3 + 1, none⟩ = some (.string ⟨tx.toArray⟩) := mD
      clear ht hx hlen
      go_region_held3 (fun w' => w'.cell? ⟨C.pb, 1, none⟩ = some (.slice (some ⟨g1, 0, none⟩) len C.c) ∧ w'.cell? ⟨C.pb, 2, none⟩ = some (.int .i64 p) ∧ w'.cell? ⟨g1, p * 3 + 1, none⟩ = some (.string ⟨tx.toArray⟩)) (first | with_reducible exact ⟨f1, f2, f3⟩ | with_reducible exact ⟨d1, d2, d3⟩ | with_reducible exact ⟨pD _, qD _, rD _⟩ | with_reducible exact ⟨kD _, lD _, mD _⟩ | with_reducible exact ⟨sD _, tD _, vD _⟩ | with_reducible exact ⟨cell_set4 f1 nD, cell_set4 f2 nD, cell_set4 f3 oD⟩) (first | (go_at_call 81; (with_reducible refine cA.mono ?_); rintro e w6 ⟨rfl, ⟨f1, f2, f3⟩, ⟨g0, g1c, g2c, g3c, gf⟩, iD, wD⟩) | (go_at_call 81; (with_reducible refine cB.mono ?_); rintro e w6 ⟨rfl, ⟨f1, f2, f3⟩, iD, wD⟩; have sD := fun o => al_cell f1 o; have tD := fun o => al_cell f2 o; have vD := fun o => al_cell f3 o))
      all_goals go_wp2_with fail
      all_goals go_meet
      all_goals (first | exact ⟨_, rfl, iD.alloc _ _ _ _⟩ | exact ⟨_, rfl, NSt.set4 (pre := []) iD⟩)
    case rest =>
      obtain ⟨a, rfl, hN⟩ := hcut
      have HNc := hj hN
      clear hN
      clear EA
      have hD : Hid (R = (Tot (unaryL C.ts C.s.size ex f gf) false (p + 1)).bind fun x q => .ok (.mk 12 tx [x] (pl : Int)) q) := by
        show R = _
        rw [HT.out, tot_go, unaryL, if_pos HS.out, HTX.out, HPL.out]
        rfl
      clear HT
      obtain ⟨RD, SD, fC, TD⟩ : wc.cell? ⟨C.pb, 2, none⟩ = some (.int .i64 p) ∧ wc.frozen? ⟨C.pb, 2, none⟩ = false ∧ p < C.ts.length ∧ C.ts.length ≤ 4096 := ⟨HNc.out.st.cellsF.2.2.1, HNc.out.st.cellsF.2.2.2.2.1, HPN.out, HNc.out.st.len⟩
      have UD : IntKind.i64.wrap ((p : Int) + 1) = (p : Int) + 1 := IntWalk.i64_in _ (by omega)
      have VD := hj fC
      clear fC TD
      go_upto_region 6 with (fail)
      clear RD SD UD
      have nA : Hid (NSt C w (World.setCell wc ⟨C.pb, 2, none⟩ (.int .i64 ((p : Int) + 1))) false (p + 1) [(a, .int .i64 12, .string ⟨tx.toArray⟩, .slice none 0 0, .int .i64 pl), zB w.heap.size]) := hj (HNc.out.step (q := p + 1) VD.out)
      clear HNc
      generalize World.setCell wc ⟨C.pb, 2, none⟩ (.int .i64 ((p : Int) + 1)) = gD at nA ⊢
      have ED := HIH.out gf rfl _ _ _ nA.out.st (fun e => HNE.out (by rw [hD.out, e]; rfl))
      unfold RFinN at ED
      go_wp2_with fail
      (with_reducible refine ED.mono ?_)
      clear ED
      rintro e aA ⟨HB, IB, TA, UA, QA, DA, YA, KA, gC, rfl, hC, iC, jC⟩
      have kC : Hid (NSt C w aA HB IB [(a, .int .i64 12, .string ⟨tx.toArray⟩, .slice none 0 0, .int .i64 pl), zB w.heap.size]) := hj (nA.out.call iC jC)
      have lC : Hid (Rw w.heap.size aA [a, w.heap.size] QA YA) := hj (nA.out.row nA.out.ow.size hC)
      clear nA jC iC hC
      have HM : Hid (Mt R HB IB (.mk 12 tx [(.mk TA UA QA DA)] (pl : Int))) := by
        show Mt _ _ _ _
        rw [hD.out, gC.bind]
        exact Mt.ret _ _ _
      clear gC hD
      go_upto_region 7 with (fail)
      have eA : Hid (NSt C w (World.alloc aA (.cells #[.int .i64 TA, .string ⟨UA.toArray⟩, .slice YA QA.length KA, .int .i64 DA] 53)) HB IB [nB aA.heap.size TA UA YA QA KA DA, (a, .int .i64 12, .string ⟨tx.toArray⟩, .slice none 0 0, .int .i64 pl), zB w.heap.size]) := hj (kC.out.alloc _ _ _ _)
      have iB : Hid (Rw w.heap.size (World.alloc aA (.cells #[.int .i64 TA, .string ⟨UA.toArray⟩, .slice YA QA.length KA, .int .i64 DA] 53)) [aA.heap.size, a, w.heap.size] QA YA) := hj (lC.out.alloc _)
      clear kC lC
      generalize World.alloc aA (.cells #[.int .i64 TA, .string ⟨UA.toArray⟩, .slice YA QA.length KA, .int .i64 DA] 53) = LA at eA iB ⊢
      obtain ⟨u00, u01, u02, u03, u0f⟩ : BoxF LA (aA.heap.size) (.int .i64 TA) (.string ⟨UA.toArray⟩) (.slice YA QA.length KA) (.int .i64 DA) := eA.out.at_ (List.Mem.head _)
      obtain ⟨n0, n1, n2, n3, nf⟩ : BoxF LA a (.int .i64 12) (.string ⟨tx.toArray⟩) (.slice none 0 0) (.int .i64 pl) := eA.out.at_ (List.Mem.tail _ (List.Mem.head _))
      have xD := fun o => al_cell n0 o
      have yD := fun o => al_cell n1 o
      have zD := fun o => al_cell n2 o
      have AE := fun o => al_cell n3 o
      have naf : ∀ ob o, (World.alloc LA ob).frozen? ⟨a, o, none⟩ = false := fun ob o => ((eA.out.bx _ (List.Mem.tail _ (List.Mem.head _))).2.alloc ob).facts.2.2.2.2 o
      go_upto_region 8 with (fail)
      clear n0 n1 n2 n3 nf u00 u01 u02 u03 u0f
      clear xD yD zD AE naf
      have mC : Hid (Rw w.heap.size (World.alloc LA (.cells #[.int .i64 TA, .string ⟨UA.toArray⟩, .slice YA QA.length KA, .int .i64 DA] 53)) [aA.heap.size, a, w.heap.size] [(.mk TA UA QA DA)] (some ⟨LA.heap.size, 0, none⟩)) := hj (Rw.one eA.out eA.out.ow.size iB.out)
      have nC : Hid (NSt C w (World.alloc LA (.cells #[.int .i64 TA, .string ⟨UA.toArray⟩, .slice YA QA.length KA, .int .i64 DA] 53)) HB IB [nB aA.heap.size TA UA YA QA KA DA, (a, .int .i64 12, .string ⟨tx.toArray⟩, .slice none 0 0, .int .i64 pl), zB w.heap.size]) := hj (eA.out.blk _)
      clear eA iB
      have tA : Hid (NSt C w (World.setCell (World.alloc LA (.cells #[.int .i64 TA, .string ⟨UA.toArray⟩, .slice YA QA.length KA, .int .i64 DA] 53)) ⟨a, 2, none⟩ (.slice (some ⟨LA.heap.size, 0, none⟩) 1 1)) HB IB [nB aA.heap.size TA UA YA QA KA DA, (a, .int .i64 12, .string ⟨tx.toArray⟩, .slice (some ⟨LA.heap.size, 0, none⟩) 1 1, .int .i64 pl), zB w.heap.size]) := hj (NSt.set2 (pre := [nB aA.heap.size TA UA YA QA KA DA]) nC.out)
      have jB : Hid (Rw w.heap.size (World.setCell (World.alloc LA (.cells #[.int .i64 TA, .string ⟨UA.toArray⟩, .slice YA QA.length KA, .int .i64 DA] 53)) ⟨a, 2, none⟩ (.slice (some ⟨LA.heap.size, 0, none⟩) 1 1)) [aA.heap.size, a, w.heap.size] [(.mk TA UA QA DA)] (some ⟨LA.heap.size, 0, none⟩)) := hj (mC.out.set (List.Mem.tail _ (List.Mem.head _)))
      clear nC mC
      generalize World.setCell (World.alloc LA (.cells #[.int .i64 TA, .string ⟨UA.toArray⟩, .slice YA QA.length KA, .int .i64 DA] 53)) ⟨a, 2, none⟩ (.slice (some ⟨LA.heap.size, 0, none⟩) 1 1) = kB at tA jB ⊢
      obtain ⟨n0, n1, n2, n3, nf⟩ : BoxF kB a (.int .i64 12) (.string ⟨tx.toArray⟩) (.slice (some ⟨LA.heap.size, 0, none⟩) 1 1) (.int .i64 pl) := tA.out.at_ (List.Mem.tail _ (List.Mem.head _))
      obtain ⟨r0, r1, r2, r3, rf⟩ : BoxF kB (w.heap.size) (.int .i64 0) (.string ⟨#[]⟩) (.slice none 0 0) (.int .i64 0) := tA.out.at_ (List.Mem.tail _ (List.Mem.tail _ (List.Mem.head _)))
      have oC : Hid (NSt C w (S4 kB w.heap.size (.int .i64 12) (.string ⟨tx.toArray⟩) (.slice (some ⟨LA.heap.size, 0, none⟩) 1 1) (.int .i64 pl)) HB IB [nB aA.heap.size TA UA YA QA KA DA, (a, .int .i64 12, .string ⟨tx.toArray⟩, .slice (some ⟨LA.heap.size, 0, none⟩) 1 1, .int .i64 pl), (w.heap.size, .int .i64 12, .string ⟨tx.toArray⟩, .slice (some ⟨LA.heap.size, 0, none⟩) 1 1, .int .i64 pl)]) := hj (NSt.set4 (pre := [nB aA.heap.size TA UA YA QA KA DA, (a, .int .i64 12, .string ⟨tx.toArray⟩, .slice (some ⟨LA.heap.size, 0, none⟩) 1 1, .int .i64 pl)]) tA.out)
      have pC : Hid (Rw w.heap.size (S4 kB w.heap.size (.int .i64 12) (.string ⟨tx.toArray⟩) (.slice (some ⟨LA.heap.size, 0, none⟩) 1 1) (.int .i64 pl)) [aA.heap.size, a, w.heap.size] [(.mk TA UA QA DA)] (some ⟨LA.heap.size, 0, none⟩)) := hj (jB.out.set4 (List.Mem.tail _ (List.Mem.tail _ (List.Mem.head _))))
      have HW : Hid (w.heap.size ≤ w.heap.size) := hj (Nat.le_refl _)
      have HF : Hid (RFinN C w (unaryL C.ts C.s.size ex f (gf + 1)) false p (.returned (.agg #[.int .i64 12, .string ⟨tx.toArray⟩, .slice (some ⟨LA.heap.size, 0, none⟩) 1 1, .int .i64 pl])) (S4 kB w.heap.size (.int .i64 12) (.string ⟨tx.toArray⟩) (.slice (some ⟨LA.heap.size, 0, none⟩) 1 1) (.int .i64 pl))) := hj (NSt.fin (n := tx) (l := [(.mk TA UA QA DA)]) oC.out HW.out (by rw [HR.out]; exact HM.out) pC.out)
      clear tA oC HW HM pC jB
      go_wp2_with fail
      exact ret_node rfl rfl rfl (by simp [go_sem, r0]) (by simp [go_sem, r1]) (by simp [go_sem, r2]) (by simp [go_sem, r3]) HF.out
theorem level_out {C : Ctx} {tight : Nat → Res Nd} {k : Nat} {x : Nd} {f p : Nat} {b : Bool} (hne : Tot (levelM C.ts C.s.size tight k f x) b p ≠ .out) (hi : (!b && anyT C.ts p (signsK k)) = false) : Mt (Tot (levelM C.ts C.s.size tight k f x) b p) b p x := by
  cases b
  · have h1 : anyT C.ts p (signsK k) = false := by simpa using hi
    rw [tot_go] at hne ⊢
    cases f with
    | zero => exact absurd rfl hne
    | succ f =>
      rw [levelM, h1]
      exact ⟨rfl, rfl, rfl⟩
  · exact ⟨rfl, rfl⟩
def LvS (C : Ctx) (tight : Nat → Res Nd) (k : Nat) (R : Res Nd) (E b : Bool) (q : Nat) (x : Nd) (g : Nat) : Prop :=
  (E = true → ∃ f0, R = Tot (levelM C.ts C.s.size tight k f0 x) b q ∧ (!b && anyT C.ts q (signsK k)) = true ∧ f0 ≤ g) ∧ (E = false → Mt R b q x)
theorem level_in {b : Bool} {ts : List Tk} {q : Nat} {l : List (List UInt8)} (h : (!b && anyT ts q l) = true) : b = false ∧ anyT ts q l = true := by
  simp only [Bool.and_eq_true, Bool.not_eq_true'] at h
  exact h
set_option maxHeartbeats 4000000 in
set_option maxRecDepth 100000 in
theorem rlevel5_any (C : Ctx) (ex : Nat → Res Nd) (f gf : Nat) (hu : ROne C 181 (unaryL C.ts C.s.size ex f gf)) (w : World) (b : Bool) (p : Nat) (h : RSt C w b p) (hne : Tot (unaryL C.ts C.s.size ex f gf) b p ≠ .out) :
    Calls Tryz.prog 143 #[.pointer (some ⟨C.pb, 0, none⟩), .int .i64 5] w (RFinN C w (unaryL C.ts C.s.size ex f gf) b p) := by
  obtain ⟨R, hR⟩ : ∃ R, Tot (unaryL C.ts C.s.size ex f gf) b p = R := ⟨_, rfl⟩
  have HT : Hid (R = Tot (unaryL C.ts C.s.size ex f gf) b p) := hj hR.symm
  rw [hR] at hne
  have HR := hj hR
  have HNE := hj hne
  have HHU := hj hu
  have IA : Hid (NSt C w w b p []) := NSt.start h
  clear hR hne h hu
  go_enter Tryz.func143, Tryz.ntmps143
  go_upto_region 1 with (fail)
  have DA : Hid (NSt C w (World.alloc w (.cells #[.int .i64 0, .string ⟨#[]⟩, .slice none 0 0, .int .i64 0] 53)) b p [zB w.heap.size]) := hj (IA.out.alloc _ _ _ _)
  clear IA
  generalize World.alloc w (.cells #[.int .i64 0, .string ⟨#[]⟩, .slice none 0 0, .int .i64 0] 53) = W3 at DA ⊢
  have c4 := HHU.out _ _ _ DA.out.st (fun e => HNE.out (by rw [HT.out, e]))
  unfold RFinN at c4
  go_wp2_with fail
  (with_reducible refine c4.mono ?_)
  clear c4
  rintro e V17 ⟨b5, q6, k11, n12, l13, AA, y15, BA, JA, rfl, EA, KA, LA⟩
  have CA : Hid (NSt C w V17 b5 q6 [zB w.heap.size]) := hj (DA.out.call KA LA)
  have FA : Hid (Rw w.heap.size V17 [w.heap.size] l13 y15) := hj (DA.out.row DA.out.ow.size EA)
  clear DA LA KA EA
  have HM : Hid (Mt R b5 q6 (.mk k11 n12 l13 AA)) := by
    show Mt _ _ _ _
    rw [HT.out]
    exact JA
  clear JA HT
  obtain ⟨r0, r1, r2, r3, rf⟩ : BoxF V17 (w.heap.size) (.int .i64 0) (.string ⟨#[]⟩) (.slice none 0 0) (.int .i64 0) := CA.out.at_ (List.Mem.head _)
  have GA : Hid (NSt C w (S4 V17 w.heap.size (.int .i64 k11) (.string ⟨n12.toArray⟩) (.slice y15 l13.length BA) (.int .i64 AA)) b5 q6 [nB w.heap.size k11 n12 y15 l13 BA AA]) := hj (NSt.set4 (pre := []) CA.out)
  have HA : Hid (Rw w.heap.size (S4 V17 w.heap.size (.int .i64 k11) (.string ⟨n12.toArray⟩) (.slice y15 l13.length BA) (.int .i64 AA)) [w.heap.size] l13 y15) := hj (FA.out.set4 (List.Mem.head _))
  have HW : Hid (w.heap.size ≤ w.heap.size) := hj (Nat.le_refl _)
  have HF : Hid (RFinN C w (unaryL C.ts C.s.size ex f gf) b p (.returned (.agg #[.int .i64 k11, .string ⟨n12.toArray⟩, .slice y15 l13.length BA, .int .i64 AA])) (S4 V17 w.heap.size (.int .i64 k11) (.string ⟨n12.toArray⟩) (.slice y15 l13.length BA) (.int .i64 AA))) := hj (NSt.fin (n := n12) (l := l13) GA.out HW.out (by rw [HR.out]; exact HM.out) HA.out)
  clear CA GA HW HM HA FA
  go_wp2_with fail
  exact ret_node rfl rfl rfl (by simp [go_sem, r0]) (by simp [go_sem, r1]) (by simp [go_sem, r2]) (by simp [go_sem, r3]) HF.out
set_option maxHeartbeats 4000000 in
set_option maxRecDepth 100000 in
theorem rlevel_any (C : Ctx) (tight : Nat → Res Nd) (k : Nat) (lB : k ≤ 4) (f : Nat) (_hf : f ≤ 8192) (ht : ∀ w b p, RSt C w b p → Tot tight b p ≠ .out → Calls Tryz.prog 143 #[.pointer (some ⟨C.pb, 0, none⟩), .int .i64 ((k : Int) + 1)] w (RFinN C w tight b p)) (w : World) (b : Bool) (p : Nat) (h : RSt C w b p) (hne : Tot (levelO C.ts C.s.size tight k f) b p ≠ .out) :
    Calls Tryz.prog 143 #[.pointer (some ⟨C.pb, 0, none⟩), .int .i64 k] w (RFinN C w (levelO C.ts C.s.size tight k f) b p) := by
  obtain ⟨R, hR⟩ : ∃ R, Tot (levelO C.ts C.s.size tight k f) b p = R := ⟨_, rfl⟩
  have HT : Hid (R = Tot (levelO C.ts C.s.size tight k f) b p) := hj hR.symm
  rw [hR] at hne
  have HR := hj hR
  have HNE := hj hne
  have HHT := hj ht
  have eA : Hid (NSt C w w b p []) := NSt.start h
  clear hR hne h ht
  have Qk : ((k : Int) == 5) = false := beq_eq_false_iff_ne.2 (by omega)
  have Xk : IntKind.i64.wrap ((k : Int) + 1) = (k : Int) + 1 := IntWalk.i64_in _ (by omega)
  have OB : k < 5 := by omega
  have PB := hj OB
  clear OB
  have KB : Hid (R = (Tot tight b p).bind fun x q => levelM C.ts C.s.size tight k f x q) := by
    show R = _
    rw [HT.out, ← tot_bind]
    rfl
  clear HT
  go_enter Tryz.func143, Tryz.ntmps143
  go_upto_region 1 with (fail)
  have FA : Hid (NSt C w (World.alloc w (.cells #[.int .i64 0, .string ⟨#[]⟩, .slice none 0 0, .int .i64 0] 53)) b p [zB w.heap.size]) := hj (eA.out.alloc _ _ _ _)
  clear eA
  generalize World.alloc w (.cells #[.int .i64 0, .string ⟨#[]⟩, .slice none 0 0, .int .i64 0] 53) = W24 at FA ⊢
  have c25 := HHT.out _ _ _ FA.out.st (fun e => HNE.out (by rw [KB.out, e]; rfl))
  unfold RFinN at c25
  go_wp2_with fail
  (with_reducible refine c25.mono ?_)
  clear c25
  rintro e V38 ⟨b26, q27, k32, n33, l34, DA, y36, GA, fA, rfl, gA, hA, iA⟩
  have jA : Hid (NSt C w V38 b26 q27 [zB w.heap.size]) := hj (FA.out.call hA iA)
  have kA : Hid (Rw w.heap.size V38 [w.heap.size] l34 y36) := hj (FA.out.row FA.out.ow.size gA)
  clear FA iA hA gA
  have GB : Hid (R = Tot (levelM C.ts C.s.size tight k f (.mk k32 n33 l34 DA)) b26 q27) := by
    show R = _
    rw [KB.out, fA.bind]
  clear fA KB
  go_upto_region 4 with (fail)
  have HA : Hid (NSt C w (World.alloc V38 (.cells #[.int .i64 k32, .string ⟨n33.toArray⟩, .slice y36 l34.length GA, .int .i64 DA] 53)) b26 q27 [nB V38.heap.size k32 n33 y36 l34 GA DA, zB w.heap.size]) := hj (jA.out.alloc _ _ _ _)
  have QA : Hid (Rw w.heap.size (World.alloc V38 (.cells #[.int .i64 k32, .string ⟨n33.toArray⟩, .slice y36 l34.length GA, .int .i64 DA] 53)) [V38.heap.size, w.heap.size] l34 y36) := hj (kA.out.alloc _)
  clear jA kA
  generalize World.alloc V38 (.cells #[.int .i64 k32, .string ⟨n33.toArray⟩, .slice y36 l34.length GA, .int .i64 DA] 53) = W42 at HA QA ⊢
  have c44 := rsignq_any C b26 q27 k PB.out W42 HA.out.st
  obtain ⟨E45, RA⟩ : ∃ E, (!b26 && anyT C.ts q27 (signsK k)) = E := ⟨_, rfl⟩
  rw [RA] at c44
  have SA := hj RA
  clear RA
  go_wp2_with fail
  (with_reducible refine c44.mono ?_)
  clear c44
  rintro e V47 ⟨rfl, TA⟩
  have OA := HA.out.st.below TA
  have IA : Ow C.pb W42 V47 := Ow.of_below TA
  clear TA
  have lA : Hid (NSt C w V47 b26 q27 [nB V38.heap.size k32 n33 y36 l34 GA DA, zB w.heap.size]) := hj (HA.out.call OA IA)
  have mA : Hid (Rw w.heap.size V47 [V38.heap.size, w.heap.size] l34 y36) := hj (QA.out.call HA.out.pb IA)
  clear HA QA IA OA
  go_wp2_with fail
  have HST : LvS C tight k R E45 b26 q27 (.mk k32 n33 l34 DA) f := ⟨fun h => ⟨f, GB.out, SA.out.trans h, Nat.le_refl _⟩, fun h => by
    have hne := HNE.out
    rw [GB.out] at hne ⊢
    exact level_out hne (SA.out.trans h)⟩
  clear GB SA
  go_loopg [6] f (fun g u wx => ∃ (E b : Bool) (q : Nat) (kk : Int) (n : List UInt8) (kids : List Nd) (y : Option Addr) (c : Cp kids.length) (pp : Int), u = .bool E ∧ NSt C w wx b q [nB V38.heap.size kk n y kids c pp, zB w.heap.size] ∧ Rw w.heap.size wx [V38.heap.size, w.heap.size] kids y ∧ LvS C tight k R E b q (.mk kk n kids pp) g)
  case atStart => exact ⟨E45, b26, q27, k32, n33, l34, y36, GA, DA, rfl, lA.out, mA.out, HST⟩
  case round =>
    clear lA mA HST
    obtain ⟨E, b9, q, kk, n, kids, y, c, pp, rfl, hN, hK, hS⟩ := hrel
    have HNr := hj hN
    have HKr := hj hK
    clear hN hK
    cases E
    · have HM : Hid (Mt R b9 q (.mk kk n kids pp)) := hS.2 rfl
      clear hS Qk Xk
      obtain ⟨x0, x1, x2, x3, xf⟩ : BoxF wr (V38.heap.size) (.int .i64 kk) (.string ⟨n.toArray⟩) (.slice y kids.length c) (.int .i64 pp) := HNr.out.at_ (List.Mem.head _)
      obtain ⟨r0, r1, r2, r3, rf⟩ : BoxF wr (w.heap.size) (.int .i64 0) (.string ⟨#[]⟩) (.slice none 0 0) (.int .i64 0) := HNr.out.at_ (List.Mem.tail _ (List.Mem.head _))
      have nA : Hid (NSt C w (S4 wr w.heap.size (.int .i64 kk) (.string ⟨n.toArray⟩) (.slice y kids.length c) (.int .i64 pp)) b9 q [nB V38.heap.size kk n y kids c pp, nB w.heap.size kk n y kids c pp]) := hj (NSt.set4 (pre := [nB V38.heap.size kk n y kids c pp]) HNr.out)
      have oA : Hid (Rw w.heap.size (S4 wr w.heap.size (.int .i64 kk) (.string ⟨n.toArray⟩) (.slice y kids.length c) (.int .i64 pp)) [V38.heap.size, w.heap.size] kids y) := hj (HKr.out.set4 (List.Mem.tail _ (List.Mem.head _)))
      have HW : Hid (w.heap.size ≤ w.heap.size) := hj (Nat.le_refl _)
      have HF : Hid (RFinN C w (levelO C.ts C.s.size tight k f) b p (.returned (.agg #[.int .i64 kk, .string ⟨n.toArray⟩, .slice y kids.length c, .int .i64 pp])) (S4 wr w.heap.size (.int .i64 kk) (.string ⟨n.toArray⟩) (.slice y kids.length c) (.int .i64 pp))) := hj (NSt.fin (n := n) (l := kids) nA.out HW.out (by rw [HR.out]; exact HM.out) oA.out)
      clear HNr nA HW HM oA HKr
      go_wp2_with fail
      exact ret_node rfl rfl rfl (by simp [go_sem, r0]) (by simp [go_sem, r1]) (by simp [go_sem, r2]) (by simp [go_sem, r3]) HF.out
    · obtain ⟨f0, QB, SB, mB⟩ := hS.1 rfl
      obtain ⟨rfl, hi⟩ := level_in SB
      have HI := hj hi
      have LB := hj QB
      clear hi hS QB SB
      obtain ⟨f1, rfl⟩ : ∃ f1, f0 = f1 + 1 := by
        cases f0 with
        | zero => exact absurd LB.out HNE.out
        | succ f1 => exact ⟨f1, rfl⟩
      have HPN : Hid (q < C.ts.length) := anyT_lt HI.out
      obtain ⟨tx, htx⟩ : ∃ tx, textT C.ts q = tx := ⟨_, rfl⟩
      obtain ⟨pl, hpl⟩ : ∃ pl, placeT C.ts C.s.size q = pl := ⟨_, rfl⟩
      have HTX := hj htx
      have HPL := hj hpl
      clear htx hpl
      go_upto_region 6 with (fail)
      go_cut [7] from 21 to 34 (fun v wx => ∃ a : Nat, v = .pointer (some ⟨a, 0, none⟩) ∧ NSt C w wx false q [(a, .int .i64 12, .string ⟨tx.toArray⟩, .slice none 0 0, .int .i64 pl), nB V38.heap.size kk n y kids c pp, zB w.heap.size] ∧ Rw w.heap.size wx [a, V38.heap.size, w.heap.size] kids y)
      case first =>
        obtain ⟨t, ht⟩ : ∃ t, C.ts[q]? = some t := ⟨C.ts[q]'HPN.out, List.getElem?_eq_getElem _⟩
        obtain ⟨g1, hx, -, -, -⟩ := HNr.out.st.row q t ht
        obtain ⟨len, hlen⟩ : ∃ len, C.ts.length = len := ⟨_, rfl⟩
        obtain ⟨f1, f2, f3⟩ := HNr.out.opf hx hlen HTX.out HPN.out
        have cB := op_place HNr.out.drew ((Ow.refl C.pb wr).drew) hx hlen HTX.out HPN.out HPL.out
        have cA := op_place_z (HNr.out.alloc (.int .i64 0) (.string ⟨#[]⟩) (.slice none 0 0) (.int .i64 0)).drew ((Ow.refl C.pb (wr.alloc (.cells #[.int .i64 0, .string ⟨#[]⟩, .slice none 0 0, .int .i64 0] 53))).drew) hx hlen HTX.out HPN.out HPL.out
        have hp : q < len := by have := HPN.out; omega
        have hl : len ≤ 4096 := by have := HNr.out.st.len; omega
        have TB := fun o => al_cell f1 o
        have UB := fun o => al_cell f2 o
        have VB := fun o => al_cell f3 o
        have WB : C.pb ≠ wr.heap.size := by have := HNr.out.st.lt; omega
        have ZB : g1 ≠ wr.heap.size := by
          have h : g1 < wr.heap.size := World.block_lt_of_cell? wr _ f3
          omega
        have d1 : (wr.drew).cell? ⟨C.pb, 1, none⟩ = some (.slice (some ⟨g1, 0, none⟩) len C.c) := f1
        have d2 : (wr.drew).cell? ⟨C.pb, 2, none⟩ = some (.int .i64 q) := f2
        have d3 : (wr.drew).cell? ⟨g1, q * 3 + 1, none⟩ = some (.string ⟨tx.toArray⟩) := f3
        have aB : ∀ o, (wr.alloc o).drew.cell? ⟨C.pb, 1, none⟩ = some (.slice (some ⟨g1, 0, none⟩) len C.c) := TB
        have bB : ∀ o, (wr.alloc o).drew.cell? ⟨C.pb, 2, none⟩ = some (.int .i64 q) := UB
        have dB : ∀ o, (wr.alloc o).drew.cell? ⟨g1, q * 3 + 1, none⟩ = some (.string ⟨tx.toArray⟩) := VB
        clear ht hx hlen
        go_region_held3 (fun w' => w'.cell? ⟨C.pb, 1, none⟩ = some (.slice (some ⟨g1, 0, none⟩) len C.c) ∧ w'.cell? ⟨C.pb, 2, none⟩ = some (.int .i64 q) ∧ w'.cell? ⟨g1, q * 3 + 1, none⟩ = some (.string ⟨tx.toArray⟩)) (first | with_reducible exact ⟨f1, f2, f3⟩ | with_reducible exact ⟨d1, d2, d3⟩ | with_reducible exact ⟨aB _, bB _, dB _⟩ | with_reducible exact ⟨TB _, UB _, VB _⟩ | with_reducible exact ⟨eB _, fB _, gB _⟩ | with_reducible exact ⟨cell_set4 f1 WB, cell_set4 f2 WB, cell_set4 f3 ZB⟩) (first | (go_at_call 81; (with_reducible refine cA.mono ?_); rintro e w6 ⟨rfl, ⟨f1, f2, f3⟩, ⟨g0, g1c, g2c, g3c, gf⟩, MB, NB⟩) | (go_at_call 81; (with_reducible refine cB.mono ?_); rintro e w6 ⟨rfl, ⟨f1, f2, f3⟩, MB, NB⟩; have eB := fun o => al_cell f1 o; have fB := fun o => al_cell f2 o; have gB := fun o => al_cell f3 o))
        all_goals go_wp2_with fail
        all_goals go_meet
        all_goals (first | exact ⟨_, rfl, MB.alloc _ _ _ _, (HKr.out.call HNr.out.pb NB).alloc _⟩ | exact ⟨_, rfl, NSt.set4 (pre := []) MB, ((HKr.out.alloc _).call HNr.out.pb NB).set4 (List.Mem.head _)⟩)
      case rest =>
        obtain ⟨a, rfl, hN, XB⟩ := hcut
        have HNc := hj hN
        clear hN
        have IB := hj XB
        clear XB
        clear HNr
        have GB : Hid (R = (Tot tight false (q + 1)).bind fun y' r => if k = 2 then .ok (.mk 12 tx [.mk kk n kids pp, y'] (pl : Int)) r else levelM C.ts C.s.size tight k f1 (.mk 12 tx [.mk kk n kids pp, y'] (pl : Int)) r) := by
          show R = _
          rw [LB.out, tot_go, levelM, if_pos HI.out, HTX.out, HPL.out]
          rfl
        clear LB
        obtain ⟨BB, CB, pA, DB⟩ : wc.cell? ⟨C.pb, 2, none⟩ = some (.int .i64 q) ∧ wc.frozen? ⟨C.pb, 2, none⟩ = false ∧ q < C.ts.length ∧ C.ts.length ≤ 4096 := ⟨HNc.out.st.cellsF.2.2.1, HNc.out.st.cellsF.2.2.2.2.1, HPN.out, HNc.out.st.len⟩
        have EB : IntKind.i64.wrap ((q : Int) + 1) = (q : Int) + 1 := IntWalk.i64_in _ (by omega)
        have FB := hj pA
        clear pA DB
        go_upto_region 8 with (fail)
        clear BB CB EB
        have EA : Hid (NSt C w (World.setCell wc ⟨C.pb, 2, none⟩ (.int .i64 ((q : Int) + 1))) false (q + 1) [(a, .int .i64 12, .string ⟨tx.toArray⟩, .slice none 0 0, .int .i64 pl), nB V38.heap.size kk n y kids c pp, zB w.heap.size]) := hj (HNc.out.step (q := q + 1) FB.out)
        have UA : Hid (Rw w.heap.size (World.setCell wc ⟨C.pb, 2, none⟩ (.int .i64 ((q : Int) + 1))) [a, V38.heap.size, w.heap.size] kids y) := hj (IB.out.step HNc.out.pb)
        clear HNc IB
        generalize World.setCell wc ⟨C.pb, 2, none⟩ (.int .i64 ((q : Int) + 1)) = W54 at EA UA ⊢
        have c56 := HHT.out _ _ _ EA.out.st (fun e => HNE.out (by rw [GB.out, e]; rfl))
        unfold RFinN at c56
        go_wp2_with fail
        (with_reducible refine c56.mono ?_)
        clear c56
        rintro e V69 ⟨b57, q58, k63, n64, l65, AA, y67, BA, qA, rfl, rA, sA, VA⟩
        have tA : Hid (NSt C w V69 b57 q58 [(a, .int .i64 12, .string ⟨tx.toArray⟩, .slice none 0 0, .int .i64 pl), nB V38.heap.size kk n y kids c pp, zB w.heap.size]) := hj (EA.out.call sA VA)
        have vA : Hid (Rw w.heap.size V69 [a, V38.heap.size, w.heap.size] kids y) := hj (UA.out.call EA.out.pb VA)
        have wA : Hid (Rw w.heap.size V69 [a, V38.heap.size, w.heap.size] l65 y67) := hj (EA.out.row EA.out.ow.size rA)
        clear EA UA VA sA rA
        have JB : Hid (R = Tot (fun r => if k = 2 then .ok (.mk 12 tx [.mk kk n kids pp, (.mk k63 n64 l65 AA)] (pl : Int)) r else levelM C.ts C.s.size tight k f1 (.mk 12 tx [.mk kk n kids pp, (.mk k63 n64 l65 AA)] (pl : Int)) r) b57 q58) := by
          show R = _
          rw [GB.out, qA.bind]
        clear qA GB
        go_upto_region 9 with (fail)
        have CA : Hid (NSt C w (World.alloc V69 (.cells #[.int .i64 k63, .string ⟨n64.toArray⟩, .slice y67 l65.length BA, .int .i64 AA] 53)) b57 q58 [nB V69.heap.size k63 n64 y67 l65 BA AA, (a, .int .i64 12, .string ⟨tx.toArray⟩, .slice none 0 0, .int .i64 pl), nB V38.heap.size kk n y kids c pp, zB w.heap.size]) := hj (tA.out.alloc _ _ _ _)
        have WA : Hid (Rw w.heap.size (World.alloc V69 (.cells #[.int .i64 k63, .string ⟨n64.toArray⟩, .slice y67 l65.length BA, .int .i64 AA] 53)) [V69.heap.size, a, V38.heap.size, w.heap.size] kids y) := hj (vA.out.alloc _)
        have XA : Hid (Rw w.heap.size (World.alloc V69 (.cells #[.int .i64 k63, .string ⟨n64.toArray⟩, .slice y67 l65.length BA, .int .i64 AA] 53)) [V69.heap.size, a, V38.heap.size, w.heap.size] l65 y67) := hj (wA.out.alloc _)
        clear tA vA wA
        generalize World.alloc V69 (.cells #[.int .i64 k63, .string ⟨n64.toArray⟩, .slice y67 l65.length BA, .int .i64 AA] 53) = W74 at CA WA XA ⊢
        obtain ⟨u00, u01, u02, u03, u0f⟩ : BoxF W74 (V38.heap.size) (.int .i64 kk) (.string ⟨n.toArray⟩) (.slice y kids.length c) (.int .i64 pp) := CA.out.at_ (List.Mem.tail _ (List.Mem.tail _ (List.Mem.head _)))
        obtain ⟨u10, u11, u12, u13, u1f⟩ : BoxF W74 (V69.heap.size) (.int .i64 k63) (.string ⟨n64.toArray⟩) (.slice y67 l65.length BA) (.int .i64 AA) := CA.out.at_ (List.Mem.head _)
        obtain ⟨n0, n1, n2, n3, nf⟩ : BoxF W74 a (.int .i64 12) (.string ⟨tx.toArray⟩) (.slice none 0 0) (.int .i64 pl) := CA.out.at_ (List.Mem.tail _ (List.Mem.head _))
        have hB := fun o => al_cell n0 o
        have iB := fun o => al_cell n1 o
        have jB := fun o => al_cell n2 o
        have kB := fun o => al_cell n3 o
        have naf : ∀ ob o, (World.alloc W74 ob).frozen? ⟨a, o, none⟩ = false := fun ob o => ((CA.out.bx _ (List.Mem.tail _ (List.Mem.head _))).2.alloc ob).facts.2.2.2.2 o
        go_upto_region 10 with (fail)
        clear n0 n1 n2 n3 nf u00 u01 u02 u03 u0f u10 u11 u12 u13 u1f
        clear hB iB jB kB naf
        have xA : Hid (Rw w.heap.size (World.alloc W74 (.cells #[.int .i64 kk, .string ⟨n.toArray⟩, .slice y kids.length c, .int .i64 pp, .int .i64 k63, .string ⟨n64.toArray⟩, .slice y67 l65.length BA, .int .i64 AA] 53)) [V69.heap.size, a, V38.heap.size, w.heap.size] [(.mk kk n kids pp), (.mk k63 n64 l65 AA)] (some ⟨W74.heap.size, 0, none⟩)) := hj (Rw.two CA.out CA.out.ow.size WA.out XA.out)
        have yA : Hid (NSt C w (World.alloc W74 (.cells #[.int .i64 kk, .string ⟨n.toArray⟩, .slice y kids.length c, .int .i64 pp, .int .i64 k63, .string ⟨n64.toArray⟩, .slice y67 l65.length BA, .int .i64 AA] 53)) b57 q58 [nB V69.heap.size k63 n64 y67 l65 BA AA, (a, .int .i64 12, .string ⟨tx.toArray⟩, .slice none 0 0, .int .i64 pl), nB V38.heap.size kk n y kids c pp, zB w.heap.size]) := hj (CA.out.blk _)
        clear CA WA XA
        have JA : Hid (NSt C w (World.setCell (World.alloc W74 (.cells #[.int .i64 kk, .string ⟨n.toArray⟩, .slice y kids.length c, .int .i64 pp, .int .i64 k63, .string ⟨n64.toArray⟩, .slice y67 l65.length BA, .int .i64 AA] 53)) ⟨a, 2, none⟩ (.slice (some ⟨W74.heap.size, 0, none⟩) 2 2)) b57 q58 [nB V69.heap.size k63 n64 y67 l65 BA AA, (a, .int .i64 12, .string ⟨tx.toArray⟩, .slice (some ⟨W74.heap.size, 0, none⟩) 2 2, .int .i64 pl), nB V38.heap.size kk n y kids c pp, zB w.heap.size]) := hj (NSt.set2 (pre := [nB V69.heap.size k63 n64 y67 l65 BA AA]) yA.out)
        have YA : Hid (Rw w.heap.size (World.setCell (World.alloc W74 (.cells #[.int .i64 kk, .string ⟨n.toArray⟩, .slice y kids.length c, .int .i64 pp, .int .i64 k63, .string ⟨n64.toArray⟩, .slice y67 l65.length BA, .int .i64 AA] 53)) ⟨a, 2, none⟩ (.slice (some ⟨W74.heap.size, 0, none⟩) 2 2)) [V69.heap.size, a, V38.heap.size, w.heap.size] [(.mk kk n kids pp), (.mk k63 n64 l65 AA)] (some ⟨W74.heap.size, 0, none⟩)) := hj (xA.out.set (List.Mem.tail _ (List.Mem.head _)))
        clear yA xA
        generalize World.setCell (World.alloc W74 (.cells #[.int .i64 kk, .string ⟨n.toArray⟩, .slice y kids.length c, .int .i64 pp, .int .i64 k63, .string ⟨n64.toArray⟩, .slice y67 l65.length BA, .int .i64 AA] 53)) ⟨a, 2, none⟩ (.slice (some ⟨W74.heap.size, 0, none⟩) 2 2) = W80 at JA YA ⊢
        obtain ⟨n0, n1, n2, n3, nf⟩ : BoxF W80 a (.int .i64 12) (.string ⟨tx.toArray⟩) (.slice (some ⟨W74.heap.size, 0, none⟩) 2 2) (.int .i64 pl) := JA.out.at_ (List.Mem.tail _ (List.Mem.head _))
        obtain ⟨x0, x1, x2, x3, xf⟩ : BoxF W80 (V38.heap.size) (.int .i64 kk) (.string ⟨n.toArray⟩) (.slice y kids.length c) (.int .i64 pp) := JA.out.at_ (List.Mem.tail _ (List.Mem.tail _ (List.Mem.head _)))
        go_upto_region 11 with (fail)
        clear n0 n1 n2 n3 nf x0 x1 x2 x3 xf
        have ZA : Hid (NSt C w ((World.setCell (World.setCell (World.setCell (World.setCell W80 ⟨V38.heap.size, 0, none⟩ (.int .i64 12)) ⟨V38.heap.size, 1, none⟩ (.string ⟨tx.toArray⟩)) ⟨V38.heap.size, 2, none⟩ (.slice (some ⟨W74.heap.size, 0, none⟩) 2 2)) ⟨V38.heap.size, 3, none⟩ (.int .i64 pl))) b57 q58 [nB V69.heap.size k63 n64 y67 l65 BA AA, (a, .int .i64 12, .string ⟨tx.toArray⟩, .slice (some ⟨W74.heap.size, 0, none⟩) 2 2, .int .i64 pl), (V38.heap.size, .int .i64 12, .string ⟨tx.toArray⟩, .slice (some ⟨W74.heap.size, 0, none⟩) 2 2, .int .i64 pl), zB w.heap.size]) := hj (NSt.set4 (pre := [nB V69.heap.size k63 n64 y67 l65 BA AA, (a, .int .i64 12, .string ⟨tx.toArray⟩, .slice (some ⟨W74.heap.size, 0, none⟩) 2 2, .int .i64 pl)]) JA.out)
        have aA : Hid (Rw w.heap.size ((World.setCell (World.setCell (World.setCell (World.setCell W80 ⟨V38.heap.size, 0, none⟩ (.int .i64 12)) ⟨V38.heap.size, 1, none⟩ (.string ⟨tx.toArray⟩)) ⟨V38.heap.size, 2, none⟩ (.slice (some ⟨W74.heap.size, 0, none⟩) 2 2)) ⟨V38.heap.size, 3, none⟩ (.int .i64 pl))) [V69.heap.size, a, V38.heap.size, w.heap.size] [(.mk kk n kids pp), (.mk k63 n64 l65 AA)] (some ⟨W74.heap.size, 0, none⟩)) := hj (YA.out.set4 (List.Mem.tail _ (List.Mem.tail _ (List.Mem.head _))))
        clear JA YA
        generalize (World.setCell (World.setCell (World.setCell (World.setCell W80 ⟨V38.heap.size, 0, none⟩ (.int .i64 12)) ⟨V38.heap.size, 1, none⟩ (.string ⟨tx.toArray⟩)) ⟨V38.heap.size, 2, none⟩ (.slice (some ⟨W74.heap.size, 0, none⟩) 2 2)) ⟨V38.heap.size, 3, none⟩ (.int .i64 pl)) = W83 at ZA aA ⊢
        have KA : Hid (NSt C w W83 b57 q58 [(V38.heap.size, .int .i64 12, .string ⟨tx.toArray⟩, .slice (some ⟨W74.heap.size, 0, none⟩) 2 2, .int .i64 pl), zB w.heap.size]) := hj (ZA.out.sub (List.Sublist.cons _ (List.Sublist.cons _ (List.Sublist.refl _))))
        clear ZA
        have zA : Hid (Rw w.heap.size W83 [V38.heap.size, w.heap.size] [(.mk kk n kids pp), (.mk k63 n64 l65 AA)] (some ⟨W74.heap.size, 0, none⟩)) := hj (aA.out.less (fun a ha => List.Mem.tail _ (List.Mem.tail _ ha)))
        clear aA
        have c87 := rsignq_any C b57 q58 k PB.out W83 KA.out.st
        obtain ⟨E88, bA⟩ : ∃ E, (!b57 && anyT C.ts q58 (signsK k)) = E := ⟨_, rfl⟩
        rw [bA] at c87
        have AB := hj bA
        clear bA
        go_wp2_with fail
        (with_reducible refine c87.mono ?_)
        clear c87
        rintro e V90 ⟨rfl, dA⟩
        have PA := KA.out.st.below dA
        have LA : Ow C.pb W83 V90 := Ow.of_below dA
        clear dA
        have MA : Hid (NSt C w V90 b57 q58 [(V38.heap.size, .int .i64 12, .string ⟨tx.toArray⟩, .slice (some ⟨W74.heap.size, 0, none⟩) 2 2, .int .i64 pl), zB w.heap.size]) := hj (KA.out.call PA LA)
        have NA : Hid (Rw w.heap.size V90 [V38.heap.size, w.heap.size] [(.mk kk n kids pp), (.mk k63 n64 l65 AA)] (some ⟨W74.heap.size, 0, none⟩)) := hj (zA.out.call KA.out.pb LA)
        clear KA zA LA PA
        by_cases HB : k = 2
        · have HNX : LvS C tight k R false b57 q58 (.mk 12 tx [.mk kk n kids pp, (.mk k63 n64 l65 AA)] (pl : Int)) (gk - 1) := ⟨(fun e => nomatch e), fun _ => by
            rw [JB.out]
            simp only [HB, if_true]
            exact Mt.ret _ _ _⟩
          have Q2 : ((k : Int) == 2) = true := by rw [HB]; rfl
          have Q3 : ((k : Int) != 2) = false := by rw [HB]; rfl
          clear HB JB Qk
          cases E88
          · go_wp2_with fail
            go_roundg (gk - 1)
            case measure => omega
            case rel => exact ⟨false, b57, q58, 12, tx, [(.mk kk n kids pp), (.mk k63 n64 l65 AA)], (some ⟨W74.heap.size, 0, none⟩), ⟨2, Nat.le_refl _⟩, (pl : Int), rfl, MA.out, NA.out, HNX⟩
          · go_wp2_with fail
            go_roundg (gk - 1)
            case measure => omega
            case rel => exact ⟨false, b57, q58, 12, tx, [(.mk kk n kids pp), (.mk k63 n64 l65 AA)], (some ⟨W74.heap.size, 0, none⟩), ⟨2, Nat.le_refl _⟩, (pl : Int), rfl, MA.out, NA.out, HNX⟩
        · have YB : Hid (R = Tot (levelM C.ts C.s.size tight k f1 (.mk 12 tx [.mk kk n kids pp, (.mk k63 n64 l65 AA)] (pl : Int))) b57 q58) := by
            show R = _
            rw [JB.out]
            simp only [if_neg HB]
          have Q2 : ((k : Int) == 2) = false := beq_eq_false_iff_ne.2 (by omega)
          have Q3 : ((k : Int) != 2) = true := by rw [bne, Q2]; rfl
          clear HB JB Qk
          cases E88
          · have HNX : LvS C tight k R false b57 q58 (.mk 12 tx [.mk kk n kids pp, (.mk k63 n64 l65 AA)] (pl : Int)) (gk - 1) := ⟨(fun e => nomatch e), fun _ => by
              have hne := HNE.out
              rw [YB.out] at hne ⊢
              exact level_out hne AB.out⟩
            go_wp2_with fail
            go_roundg (gk - 1)
            case measure => omega
            case rel => exact ⟨false, b57, q58, 12, tx, [(.mk kk n kids pp), (.mk k63 n64 l65 AA)], (some ⟨W74.heap.size, 0, none⟩), ⟨2, Nat.le_refl _⟩, (pl : Int), rfl, MA.out, NA.out, HNX⟩
          · have HNX : LvS C tight k R true b57 q58 (.mk 12 tx [.mk kk n kids pp, (.mk k63 n64 l65 AA)] (pl : Int)) (gk - 1) := ⟨fun _ => ⟨f1, YB.out, AB.out, by omega⟩, fun e => nomatch e⟩
            go_wp2_with fail
            go_roundg (gk - 1)
            case measure => omega
            case rel => exact ⟨true, b57, q58, 12, tx, [(.mk kk n kids pp), (.mk k63 n64 l65 AA)], (some ⟨W74.heap.size, 0, none⟩), ⟨2, Nat.le_refl _⟩, (pl : Int), rfl, MA.out, NA.out, HNX⟩
theorem runary_all (C : Ctx) (ex : Nat → Res Nd) (hx : ROneQ C 87 ex) (f : Nat) (hf : f ≤ 8192) : ∀ gf, ROne C 181 (unaryL C.ts C.s.size ex f gf)
  | 0 => runary_step C ex hx f hf 0 (fun k hk => by omega)
  | g + 1 => runary_step C ex hx f hf (g + 1) (fun k hk => by
      obtain rfl : g = k := by omega
      exact runary_all C ex hx f hf g)
theorem rlev_any (C : Ctx) (ex : Nat → Res Nd) (hx : ROneQ C 87 ex) (f : Nat) (hf : f ≤ 8192) : ∀ d, d ≤ 5 → ∀ (k : Nat), k + d = 5 → ∀ w b p, RSt C w b p → Tot (levO C.ts C.s.size ex f d) b p ≠ .out → Calls Tryz.prog 143 #[.pointer (some ⟨C.pb, 0, none⟩), .int .i64 k] w (RFinN C w (levO C.ts C.s.size ex f d) b p)
  | 0, _, k, hk, w, b, p, h, hne => by
    obtain rfl : k = 5 := by omega
    exact rlevel5_any C ex f f (runary_all C ex hx f hf f) w b p h hne
  | d + 1, hd, k, hk, w, b, p, h, hne => by
    have e : levO C.ts C.s.size ex f (d + 1) = levelO C.ts C.s.size (levO C.ts C.s.size ex f d) k f := by
      rw [show k = 4 - d by omega]
      rfl
    rw [e] at hne ⊢
    exact rlevel_any C (levO C.ts C.s.size ex f d) k (by omega) f hf (fun w b p h1 h2 => by
      have := rlev_any C ex hx f hf d (by omega) (k + 1) (by omega) w b p h1 h2
      rwa [Int.natCast_add] at this) w b p h hne
theorem rexprP_any (C : Ctx) : ∀ f, f ≤ 8192 → ROneQ C 87 (exprP C.ts C.s.size f)
  | 0, _ => fun _ _ _ _ _ ⟨_, hq⟩ => absurd rfl hq
  | f + 1, hf => fun w b p h hne _ => rexpr_any C (exprP C.ts C.s.size f) (rexprP_any C f (by omega)) f (by omega) (fun w b p h1 h2 => rlev_any C _ (rexprP_any C f (by omega)) f (by omega) 5 (by omega) 0 (by omega) w b p h1 h2) w b p h hne
theorem rstmtP_any (C : Ctx) (hl : C.ts.length ≤ 4096) : ∀ f, ROneQ C 45 (stmtP C.ts C.s.size 8192 f)
  | 0 => fun _ _ _ _ _ ⟨_, hq⟩ => absurd rfl hq
  | f + 1 => fun w b p h hne _ => rstmt_any C (exprP C.ts C.s.size 8192) (stmtP C.ts C.s.size 8192 f) (rexprP_any C 8192 (by omega)) (rstmtP_any C hl f) 8192 (by omega) ⟨C.ts.length, (gd_expr (ts := C.ts) (L := C.s.size) 8192 C.ts.length (Nat.le_refl _) (by omega)).ne⟩ w b p h hne
def parseX (T : Except Flt (List Tk)) (L : Nat) : Except FlI (List Nd) := match T with
  | .error f => .error (f.1, (f.2.1 : Int), f.2.2)
  | .ok ts => parseT ts L
def parseS (ts : List Tk) (L : Nat) (R : Res (List Nd)) : Except FlI (List Nd) := match R with
  | .out => .error (270, 0, [])
  | .bad q => .error (270, (placeT ts L q : Int), textT ts q)
  | .ok l _ => match deepL l 1 with
    | some x => .error (3, x.pos, x.name)
    | none => .ok l
theorem parseT_eq (ts : List Tk) (L : Nat) : parseT ts L = parseS ts L (stmtsP ts L 8192 8192 [] 0) := rfl
theorem parseR_eq (s : List UInt8) : parseR s = parseX (tokensL s) s.length := rfl
def RParseEnd (R : Except FlI (List Nd)) (w : World) (e : Ending) (w' : World) : Prop :=
  Below w.heap.size w w' ∧ match R with
  | .ok l => ∃ y c, e = .returned (.tuple #[.slice y l.length c, .pointer none]) ∧ NdRow w' (fun b => w.heap.size ≤ b) l y ∧ l.length ≤ c
  | .error f => ∃ b, e = .returned (.tuple #[.slice none 0 0, .pointer (some ⟨b, 0, none⟩)]) ∧ w'.heap[b]? = some (.cells #[.int .i64 f.1, .int .i64 f.2.1, .string ⟨f.2.2.toArray⟩] 61 (0, 0))
set_option maxHeartbeats 4000000 in
set_option maxRecDepth 100000 in
theorem rparse_any (s : ByteArray) (w : World) (hG : Gl w) : Calls Tryz.prog 14 #[.string s] w (RParseEnd (parseR s.data.toList) w) := by
  have c0 := rtokens_all s w hG
  obtain ⟨T, hT⟩ : ∃ T, tokensL s.data.toList = T := ⟨_, rfl⟩
  rw [parseR_eq, hT, ← Lib.size_eq]
  rw [hT] at c0
  unfold RTokEnd at c0
  cases T with
  | error f =>
    clear hT hG
    dsimp only [parseX] at c0 ⊢
    go_enter Tryz.func14, Tryz.ntmps14
    go_wp2_with fail
    refine c0.mono ?_
    clear c0
    rintro e w1 ⟨BA, g, hg, rfl, hf⟩
    have HB := Lib.hid BA
    have HF := Lib.hid hf
    clear BA hf hg
    go_wp2_with fail
    refine bodyPost_ret (v := .tuple #[.slice none 0 0, .pointer (some ⟨g, 0, none⟩)]) (by simp [results, Tryz.results14, go_sem]) rfl ?_
    exact ⟨HB.out, g, rfl, HF.out⟩
  | ok ts =>
    have hlen := tokensL_len s.data.toList ts hT
    clear hT hG
    dsimp only [parseX] at c0 ⊢
    have HLEN := Lib.hid hlen
    obtain ⟨PE, hPE⟩ : ∃ PE, parseT ts s.size = PE := ⟨_, rfl⟩
    rw [hPE]
    rw [parseT_eq] at hPE
    obtain ⟨i0, YA, ZA, aA, bA⟩ := info_parts Tryz.infoNode
    clear hlen
    go_enter Tryz.func14, Tryz.ntmps14
    go_wp2_with fail
    refine c0.mono ?_
    clear c0
    rintro e w1 ⟨BA, v, rfl, hown⟩
    obtain ⟨x, c, rfl⟩ := own_shape hown
    have LA : RSt ⟨s, ts, x, c, w1.heap.size⟩ (w1.alloc (.cells #[.string s, .slice x ts.length c, .int .i64 0, .pointer none] 69)) false 0 := by
      refine ⟨⟨none, heap_alloc_new w1 _, fun _ => rfl, fun e => nomatch e⟩, (tokRow_own hown).below ((Below.refl _ _).alloc (Nat.le_refl _) _), ?_, Nat.zero_le _, HLEN.out⟩
      intro g hg
      have cA : x = some ⟨g, 0, none⟩ := hg
      have := (hown.lt g (by rw [cA]; rfl)).2
      show g ≠ w1.heap.size
      omega
    have SA : Below w.heap.size w (w1.alloc (.cells #[.string s, .slice x ts.length c, .int .i64 0, .pointer none] 69)) := BA.alloc BA.size _
    have hne : stmtsP ts s.size 8192 8192 [] 0 ≠ .out := (gd_stmts (ts := ts) (L := s.size) (F := 8192) (by have := HLEN.out; omega) 8192 [] 0 (Nat.zero_le _) (by have := HLEN.out; omega)).ne
    obtain ⟨R, hR⟩ : ∃ R, stmtsP ts s.size 8192 8192 [] 0 = R := ⟨_, rfl⟩
    rw [hR] at hne
    have HNE := Lib.hid hne
    have HR := Lib.hid hR
    have dA := Lib.hid LA
    have IA := Lib.hid SA
    have HX := Lib.hid LA.xlt
    have HPBL : Hid (w.heap.size ≤ w1.heap.size) := BA.size
    obtain ⟨C, hC⟩ : ∃ C : Ctx, C = ⟨s, ts, x, c, w1.heap.size⟩ := ⟨_, rfl⟩
    have HC := Lib.hid hC
    have eTs : C.ts = ts := by rw [hC]
    have ePb : C.pb = w1.heap.size := by rw [hC]
    have eS : C.s = s := by rw [hC]
    have TA : RSt C (w1.alloc (.cells #[.string s, .slice x ts.length c, .int .i64 0, .pointer none] 69)) false 0 := by rw [hC]; exact LA
    have hbs := (World.size_alloc w1 (.cells #[.string s, .slice x ts.length c, .int .i64 0, .pointer none] 69))
    rw [hR, ← eTs, ← eS] at hPE
    have HPE := Lib.hid hPE
    rw [← eTs, ← eS] at hR
    rw [← eTs] at HLEN
    have HRC := Lib.hid hR
    have NA := Lib.hid TA
    have HTS := Lib.hid eTs
    have HPB := Lib.hid ePb
    have HSS := Lib.hid eS
    clear hown LA SA hne hR BA hC eTs eS TA HC HR dA HX ePb hPE
    go_upto_region 5 with (fail)
    have HWS : Hid ((w1.alloc (.cells #[.string s, .slice x ts.length c, .int .i64 0, .pointer none] 69)).heap.size = w1.heap.size + 1) := hbs
    clear hbs
    generalize World.alloc w1 (.cells #[.string s, .slice x ts.length c, .int .i64 0, .pointer none] 69) = W at IA NA HWS ⊢
    rw [← HPB.out] at HWS HPBL ⊢
    go_wp2_with fail
    go_loopg [7] 8192 (fun g v wx => ∃ (acc : List Nd) (b : Bool) (q f0 : Nat), RowOwn wx (C.pb + 1) v acc ∧ RSt C wx b q ∧ Ow C.pb W wx ∧ Hid (R = Tot (stmtsP C.ts C.s.size 8192 f0 acc) b q) ∧ acc.length + g ≤ 8192 ∧ f0 ≤ g)
    case atStart => exact ⟨[], false, 0, 8192, RowOwn.nil _ _, NA.out, Ow.refl _ _, Lib.hid HRC.out.symm, by simp, Nat.le_refl _⟩
    case round =>
      obtain ⟨acc, b, q, f0, hrow, hs, ho, hS, hlen, lA⟩ := hrel
      obtain ⟨va, vc, rfl, hca, -⟩ := hrow.shape
      have HROW := Lib.hid hrow
      have HS := Lib.hid hs
      have HO := Lib.hid ho
      have hwz := ho.size
      have OA := HLEN.out
      have hxl : ∀ (g i : Nat) (u : Tk), C.ts[i]? = some u → C.x = some ⟨g, 0, none⟩ → g < C.pb + 1 := fun g i u h1 h2 => by
        have := NA.out.xlt g i u h1 h2
        have := HWS.out
        omega
      have HXL := Lib.hid hxl
      clear hrow hs ho hxl
      have hout : ∀ (a b : World), RSt C a true q → b.heap = a.heap → True := fun _ _ _ _ => trivial
      clear hout
      cases b
      · obtain ⟨c0, c1, c2, c3, -⟩ := HS.out.cellsF
        have hql := HS.out.le
        by_cases hq : q < C.ts.length
        · obtain ⟨f1, rfl⟩ : ∃ f1, f0 = f1 + 1 := by
            cases f0 with
            | zero => exact absurd hS.out HNE.out
            | succ f1 => exact ⟨f1, rfl⟩
          have CA : Hid (R = (Tot (stmtP C.ts C.s.size 8192 8192) false q).bind fun x r => stmtsP C.ts C.s.size 8192 f1 (acc ++ [x]) r) := by
            show R = _
            rw [hS.out, tot_go, stmtsP_step hq]
            rfl
          obtain ⟨n, hn⟩ : ∃ n, C.ts.length = n := ⟨_, rfl⟩
          rw [hn] at c1 hq hql OA
          have Q : decide ((q : Int) < (n : Int)) = true := by simp; omega
          have HNn := Lib.hid hn
          clear hn hS
          go_upto_region 6 with (fail)
          go_quiet (fail)
          have HA : Hid (RSt C (wr.drewN nq) false q) := Lib.hid (HS.out.below (bdn (Below.refl _ _) _))
          have DA : Hid (RowOwn (wr.drewN nq) (C.pb + 1) (.slice va acc.length vc) acc) := Lib.hid (HROW.out.below (bdn (Below.refl _ _) _))
          have FA : Hid (Ow C.pb W (wr.drewN nq)) := Lib.hid (HO.out.drewN _)
          have PA : W.heap.size ≤ (wr.drewN nq).heap.size := FA.out.size
          clear c0 c1 c2 c3 HS HROW HO hwz
          generalize World.drewN wr nq = w3 at HA DA FA PA ⊢
          have cs := rstmtP_any C HLEN.out 8192 w3 false q HA.out (fun e => HNE.out (by rw [CA.out, e]; rfl)) ⟨q, fun e => HNE.out (by rw [CA.out, tot_go, e]; rfl)⟩
          unfold RFinN at cs
          have HLT : Hid (∀ j, (Value.slice va acc.length vc).ownBlock = some j → j < w3.heap.size) := by
            obtain ⟨mA, h1, _⟩ := DA.out
            exact fun j hj => (h1.lt j hj).2
          go_wp2_with fail
          refine cs.mono ?_
          clear cs
          rintro e3 w5 ⟨b5, q5, k, nm, kids, pp, y, cp, UA, rfl, VA, WA, MA⟩
          have eA := Lib.hid UA
          have fA := Lib.hid VA
          have gA := Lib.hid WA
          have hA := Lib.hid (FA.out.trans MA)
          have iA := Lib.hid (DA.out.ow MA (Nat.lt_succ_self _))
          have nA : w3.heap.size ≤ w5.heap.size := MA.size
          have hpw : C.pb + 1 ≤ w3.heap.size := HA.out.lt
          clear UA VA WA MA DA
          go_wp2_with (at_builtin; refine Hold.out ?_)
          refine Hold.put ?_
          obtain ⟨xs, hown, hfl⟩ := iA.out
          refine wpList_append_fresh _ rfl (.tmp 42) (.tmp 44) 22 rfl (C.pb + 1) 53 i0 (.agg #[.int .i64 0, .string ⟨#[]⟩, .slice none 0 0, .int .i64 0]) 4 56 Tryz.underlying22 YA ZA aA bA rfl (by decide) _ _ _ rfl ((hown.alloc _).alloc _) ⟨w5.heap.size + 1, 0, none⟩ 1 1 [.int .i64 k, .string ⟨nm.toArray⟩, .slice y kids.length cp, .int .i64 pp] rfl rfl (by rw [show (w5.heap.size + 1) = (w5.alloc (.cells #[.int .i64 k, .string ⟨nm.toArray⟩, .slice y kids.length cp, .int .i64 pp] 53)).heap.size by simp]; exact cell_four_new _ _ _ _ _ _) (fun x hx => by simp at hx; rcases hx with rfl | rfl | rfl | rfl <;> rfl) (by unfold maxLen; omega) (by omega) (by simp; omega) ?_
          intro v' w6 hown' hgrow hfresh
          obtain ⟨h1, h2, h3⟩ := app_step (w := W) (S := w3.heap.size) HXL.out (Nat.lt_succ_self _) gA.out hA.out (Nat.le_of_eq HWS.out) (((Below.refl _ _).alloc (Nat.le_refl _) _).alloc (by simp) _) hown hfl fA.out HLT.out hpw hown' hgrow hfresh
          have H1 := Lib.hid h1
          have H2 := Lib.hid h2
          have H3 := Lib.hid h3
          have jA : Hid (R = Tot (stmtsP C.ts C.s.size 8192 f1 (acc ++ [.mk k nm kids pp])) b5 q5) := by
            show R = _
            rw [CA.out, eA.out.bind]
          clear h1 h2 h3 hown hfl hown' hgrow hfresh
          go_wp2_with fail
          go_roundg (gk - 1)
          case measure => omega
          case rel => exact ⟨acc ++ [.mk k nm kids pp], b5, q5, f1, H2.out, H1.out, H3.out, jA, by simp; omega, by omega⟩
        · -- all tokens are through
          obtain ⟨f1, rfl⟩ : ∃ f1, f0 = f1 + 1 := by
            cases f0 with
            | zero => exact absurd hS.out HNE.out
            | succ f1 => exact ⟨f1, rfl⟩
          have CA : Hid (R = .ok acc q) := by
            show R = _
            rw [hS.out, tot_go, stmtsP_end hq]
          have hsz : szL acc ≤ C.ts.length := parse_sz (F := 8192) (f := 8192) (L := C.s.size) (r := q) (by omega) (by omega) (HRC.out.trans CA.out)
          have AA : Hid (PE = match deepL acc 1 with
              | some x => .error (3, x.pos, x.name)
              | none => .ok acc) := by
            show PE = _
            rw [← HPE.out, CA.out]
            rfl
          obtain ⟨n, hn⟩ : ∃ n, C.ts.length = n := ⟨_, rfl⟩
          rw [hn] at c1 hq hql OA hsz
          have Q : decide ((q : Int) < (n : Int)) = false := by simp; omega
          clear hn hS
          go_upto_region 6 with (fail)
          go_quiet (fail)
          have HA : Hid (RSt C (wr.drewN nq) false q) := Lib.hid (HS.out.below (bdn (Below.refl _ _) _))
          have DA : Hid (RowOwn (wr.drewN nq) (C.pb + 1) (.slice va acc.length vc) acc) := Lib.hid (HROW.out.below (bdn (Below.refl _ _) _))
          have FA : Hid (Ow C.pb W (wr.drewN nq)) := Lib.hid (HO.out.drewN _)
          have PA : W.heap.size ≤ (wr.drewN nq).heap.size := FA.out.size
          clear c0 c1 c2 c3 HS HROW HO hwz
          generalize World.drewN wr nq = w3 at HA DA FA PA ⊢
          have HBE : Hid (Below w.heap.size w w3) := by
            refine IA.out.trans (FA.out.toBelow HPBL.out ?_)
            have := IA.out.size
            exact this
          have EA : NdRow w3 (fun j => j < w3.heap.size) acc va := by
            obtain ⟨a, c', e, _, h⟩ := DA.out.shape
            cases e
            exact h.wide fun k _ hk => hk
          have HRW : Hid (NdRow w3 (fun j => w.heap.size ≤ j) acc va) := by
            obtain ⟨a, c', e, _, h⟩ := DA.out.shape
            cases e
            exact h.wide fun k hk _ => by have := HPBL.out; omega
          have hll := len_szL acc
          have cd : Calls Tryz.prog 46 #[.slice va acc.length vc, .int .i64 1] w3 (RDeepEnd (fun k => k < w3.heap.size) (deepL acc 1) w3) := rdeep_any w3.heap.size (szL acc + 1) acc (Nat.lt_succ_self _) (by omega) 1 (by omega) va vc w3 (Nat.le_refl _) EA
          obtain ⟨-, -, -, c3, -⟩ := HA.out.cellsF
          clear EA hll hsz
          obtain ⟨D, hD⟩ : ∃ D, deepL acc 1 = D := ⟨_, rfl⟩
          rw [hD] at cd
          have HD := Lib.hid hD
          clear hD
          go_wp2_with fail
          refine cd.mono ?_
          clear cd c3
          rintro e4 w4 ⟨JA, ⟨hr, rfl⟩ | ⟨x4, v4, hr, rfl, kA⟩⟩
          · have GA : Hid (PE = .ok acc) := by
              show PE = _
              rw [AA.out, HD.out, hr]
            have KA := Lib.hid JA
            have QA := Lib.hid (HRW.out.below JA)
            clear hr JA
            go_wp2_with fail
            refine bodyPost_ret (v := .tuple #[.slice va acc.length vc, .pointer none]) (by simp [results, Tryz.results14, go_sem]) rfl ?_
            rw [GA.out]
            exact ⟨(tr HBE.out KA.out).alloc (tr HBE.out KA.out).size _, va, vc, rfl, QA.out.alloc _, hca⟩
          · obtain ⟨k4, n4, m4, p4⟩ := x4
            obtain ⟨y4, c4, rfl, _⟩ := kA
            have GA : Hid (PE = .error (3, p4, n4)) := by
              show PE = _
              rw [AA.out, HD.out, hr]
              rfl
            have KA := Lib.hid JA
            clear hr JA
            go_upto_region 13 with (fail)
            have B9 := Lib.hid (Box4.new w4 (.int .i64 k4) (.string ⟨n4.toArray⟩) (.slice y4 m4.length c4) (.int .i64 p4))
            have RA := Lib.hid ((tr HBE.out KA.out).alloc (tr HBE.out KA.out).size (.cells #[.int .i64 k4, .string ⟨n4.toArray⟩, .slice y4 m4.length c4, .int .i64 p4] 53))
            generalize World.alloc w4 (.cells #[.int .i64 k4, .string ⟨n4.toArray⟩, .slice y4 m4.length c4, .int .i64 p4] 53) = w9 at B9 RA ⊢
            obtain ⟨z0, z1, z2, z3, zf⟩ := B9.out.facts
            go_region
            all_goals go_wp2_with fail
            refine bodyPost_ret (v := .tuple #[.slice none 0 0, .pointer (some ⟨w9.heap.size, 0, none⟩)]) (by simp [results, Tryz.results14, go_sem]) rfl ?_
            rw [GA.out]
            exact ⟨Below.drew (RA.out.alloc RA.out.size _), w9.heap.size, rfl, heap_alloc_new w9 _⟩
      · -- a fault has been told
        have CA : Hid (R = .bad q) := hS
        have AA : Hid (PE = .error (270, (placeT C.ts C.s.size q : Int), textT C.ts q)) := by
          show PE = _
          rw [← HPE.out, CA.out]
          rfl
        obtain ⟨a, BA, -, XA⟩ := HS.out.blk
        obtain ⟨g, rfl, hgn, hf⟩ := XA rfl
        obtain ⟨c0, c1, c2⟩ := HS.out.cells
        have c3 : wr.cell? ⟨C.pb, 3, none⟩ = some (.pointer (some ⟨g, 0, none⟩)) := by simp [World.cell?, BA]
        have HF := Lib.hid hf
        obtain ⟨n, hn⟩ : ∃ n, C.ts.length = n := ⟨_, rfl⟩
        rw [hn] at c1 OA
        have hql := HS.out.le
        rw [hn] at hql
        have HBE : Hid (Below w.heap.size w wr) := by
          refine IA.out.trans (HO.out.toBelow HPBL.out ?_)
          have := IA.out.size
          exact this
        clear BA XA hf hn hS
        by_cases hq : q < n
        · have Q : decide ((q : Int) < (n : Int)) = true := by simp; omega
          go_upto_region 6 with (fail)
          go_quiet (fail)
          go_wp2_with fail
          go_quiet (fail)
          go_wp2_with fail
          refine bodyPost_ret (v := .tuple #[.slice none 0 0, .pointer (some ⟨g, 0, none⟩)]) (by simp [results, Tryz.results14, go_sem]) rfl ?_
          rw [AA.out]
          exact ⟨bdn (bdn HBE.out _) _, g, rfl, HF.out⟩
        · have Q : decide ((q : Int) < (n : Int)) = false := by simp; omega
          go_upto_region 6 with (fail)
          go_quiet (fail)
          go_wp2_with fail
          go_quiet (fail)
          go_wp2_with fail
          refine bodyPost_ret (v := .tuple #[.slice none 0 0, .pointer (some ⟨g, 0, none⟩)]) (by simp [results, Tryz.results14, go_sem]) rfl ?_
          rw [AA.out]
          exact ⟨bdn (bdn HBE.out _) _, g, rfl, HF.out⟩
open Go.RowKit Go.Lib
set_option maxHeartbeats 4000000 in
set_option maxRecDepth 100000 in
theorem answers28_any (l : List Nd) (hs : wtL l < 2 ^ 38) (FA : checkR l = 0) (y : Option Addr) (cv : Cp l.length) (w : World) (hG : Gl w) (hE : GlE w) (hrow : NdRow w (fun b => b < w.heap.size) l y) :
    Calls Tryz.prog 16 #[.slice y l.length cv.val] w fun e w' => e = .returned (.bool true) ∧ Below w.heap.size w w' := by
  have c0 := ranswer28_any l hs FA _ y cv w hG hrow fun _ h => h
  have HW : Hid (∀ w1, Below w.heap.size w w1 → Gl w1 ∧ GlE w1 ∧ NdRow w1 (fun b => b < w.heap.size) l y ∧ ∀ b, b < w.heap.size → b < w1.heap.size) := Lib.hid fun w1 hb => ⟨hG.below hb, hE.below hb, hrow.below hb, fun b h => Nat.lt_of_lt_of_le h hb.size⟩
  have CA : Hid (∀ w1, Below w.heap.size w w1 → _) := Lib.hid fun w1 hb => rall28_any l hs FA _ y cv w1 (HW.out w1 hb).1 (HW.out w1 hb).2.2.1 (HW.out w1 hb).2.2.2
  have CK : Hid (∀ w1, Below w.heap.size w w1 → _) := Lib.hid fun w1 hb => scheck_any l hs _ y cv.val w1 (HW.out w1 hb).1 (HW.out w1 hb).2.2.1 (HW.out w1 hb).2.2.2
  have CF : Hid (∀ w1, Below w.heap.size w w1 → _) := Lib.hid fun w1 hb => sfree_any l hs _ y cv.val w1 (HW.out w1 hb).1 (HW.out w1 hb).2.2.1 (HW.out w1 hb).2.2.2
  have CC : Hid (∀ w1, Below w.heap.size w w1 → _) := Lib.hid fun w1 hb => scall_any l hs _ y cv.val w1 (HW.out w1 hb).1 (HW.out w1 hb).2.2.1 (HW.out w1 hb).2.2.2
  obtain ⟨n1, n2⟩ := names_len l hs
  have HN := Lib.hid (⟨n1, n2⟩ : _ ∧ _)
  have HC := Lib.hid FA
  obtain ⟨c, hc⟩ : ∃ c, cv.val = c := ⟨_, rfl⟩
  obtain ⟨K, hK⟩ : ∃ K, l.length = K := ⟨_, rfl⟩
  rw [hc, hK] at c0 CA CK CF CC ⊢
  clear hc cv hK hrow hG hE n1 n2 FA hs
  go_enter Tryz.func16, Tryz.ntmps16
  go_wp2_with fail
  refine c0.mono ?_
  clear c0
  rintro e w1 ⟨HA, fp, rfl, hf⟩
  have c1 := CA.out w1 HA
  have DA := Lib.hid HA
  have HF := Lib.hid hf
  clear HA hf CA
  go_wp2_with fail
  refine c1.mono ?_
  clear c1
  rintro e w2 ⟨BA, v1, v2, rfl, IA, JA⟩
  obtain ⟨a1, k1, rfl, -⟩ := names_at IA
  obtain ⟨a2, k2, rfl, -⟩ := names_at JA
  have c2 := CK.out w2 (tr DA.out BA)
  have EA := Lib.hid BA
  have HO := Lib.hid (⟨IA, JA⟩ : _ ∧ _)
  clear BA IA JA CK
  go_wp2_with fail
  refine c2.mono ?_
  clear c2
  rintro e w3 ⟨RA, hend⟩
  have AA := Lib.hid RA
  have hIS : ∃ v, e = .returned v ∧ Calls Tryz.prog 43 #[v, .int .i64 0, .pointer fp] w3 fun e w' => e = .returned (.bool true) ∧ Below w3.heap.size w3 w' := by
    have hf := HF.out
    rcases hend with ⟨h, -⟩ | ⟨-, h, rfl⟩ | ⟨-, c', n', p', b, h, -, rfl, hb⟩
    · exact absurd HC.out h
    · rw [h] at hf
      obtain rfl : fp = none := hf
      exact ⟨_, rfl, is_ok w3⟩
    · rw [h] at hf
      obtain ⟨b2, rfl, BA⟩ := hf
      refine ⟨_, rfl, is_hit 0 c' p' ⟨n'.toArray⟩ b b2 w3 (HW.out w3 (tr (tr DA.out EA.out) AA.out)).2.1 hb ?_⟩
      have hk := (tr EA.out AA.out).block b2 (Array.getElem?_eq_some_iff.1 BA).1
      exact hk.trans BA
  obtain ⟨v, rfl, c3⟩ := hIS
  clear hend RA
  go_wp2_with fail
  refine c3.mono ?_
  clear c3
  rintro e w4 ⟨rfl, KA⟩
  have GA := Lib.hid KA
  have c4 := CF.out w4 (tr (tr (tr DA.out EA.out) AA.out) KA)
  clear KA CF
  go_wp2_with fail
  refine c4.mono ?_
  clear c4
  rintro e w5 ⟨u1, rfl, LA, MA⟩
  have NA := Lib.hid MA
  have c5 := ssame_any (sfreeR l) (sfreeR l) HN.out.1 w4.heap.size w1.heap.size u1 (.slice a1 (sfreeR l).length k1) w5 LA (own_below HO.out.1 (tr (tr AA.out GA.out) MA))
  rw [show decide (sfreeR l = sfreeR l) = true from decide_eq_true rfl] at c5
  obtain ⟨b1, j1, rfl, -⟩ := names_at LA
  clear MA LA
  go_wp2_with fail
  refine c5.mono ?_
  clear c5
  rintro e w6 ⟨rfl, OA⟩
  have SA := Lib.hid OA
  have c6 := CC.out w6 (tr (tr (tr (tr (tr DA.out EA.out) AA.out) GA.out) NA.out) OA)
  clear OA CC
  go_wp2_with fail
  refine c6.mono ?_
  clear c6
  rintro e w7 ⟨u2, rfl, PA, QA⟩
  have UA := Lib.hid QA
  have c7 := ssame_any (scallR l) (scallR l) HN.out.2 w6.heap.size w1.heap.size u2 (.slice a2 (scallR l).length k2) w7 PA (own_below HO.out.2 (tr (tr (tr (tr AA.out GA.out) NA.out) SA.out) QA))
  rw [show decide (scallR l = scallR l) = true from decide_eq_true rfl] at c7
  obtain ⟨b2, j2, rfl, -⟩ := names_at PA
  clear QA PA
  go_wp2_with fail
  refine c7.mono ?_
  clear c7
  rintro e w8 ⟨rfl, TA⟩
  have VA := Lib.hid (tr (tr (tr (tr (tr (tr (tr DA.out EA.out) AA.out) GA.out) NA.out) SA.out) UA.out) TA)
  clear TA
  go_wp2_with fail
  go_ret
  exact ⟨rfl, VA.out⟩
theorem scopeTexts_any (s : ByteArray) (_hs : s.size < 2 ^ 62) (w : World) (hGE : Gl w ∧ GlE w) :
    Calls Tryz.prog 3 #[.string s] w fun e w' => e = .returned (.bool true) ∧ Below w.heap.size w w' := by
  obtain ⟨hG, hE⟩ := hGE
  have c0 := rparse_any s w hG
  obtain ⟨P, hP⟩ : ∃ P, parseR s.data.toList = P := ⟨_, rfl⟩
  rw [hP] at c0
  unfold RParseEnd at c0
  have HP := Lib.hid hP
  have HG := Lib.hid hG
  have HE := Lib.hid hE
  clear hP hG hE
  cases P with
  | error f =>
    dsimp only at c0
    go_enter Tryz.func3, Tryz.ntmps3
    go_wp2_with fail
    refine c0.mono ?_
    clear c0
    rintro e w1 ⟨AA, b, rfl, hf⟩
    have cw := swakes_any w1 (HG.out.below AA) (HE.out.below AA)
    have DA := Lib.hid AA
    clear AA hf
    go_wp2_with fail
    refine cw.mono ?_
    clear cw
    rintro e w2 ⟨rfl, BA⟩
    have CA := Lib.hid (tr DA.out BA)
    clear BA
    go_wp2_with fail
    go_ret
    exact ⟨rfl, CA.out⟩
  | ok l =>
    dsimp only at c0
    obtain ⟨k1, k2⟩ := parse_right HP.out
    have HC := Lib.hid k1
    have HW := Lib.hid k2
    clear k1 k2
    go_enter Tryz.func3, Tryz.ntmps3
    go_wp2_with fail
    refine c0.mono ?_
    clear c0
    rintro e w1 ⟨AA, y, c, rfl, hrow, hcl⟩
    have c1 := answers28_any l (by have := HW.out; omega) HC.out y ⟨c, hcl⟩ w1 (HG.out.below AA) (HE.out.below AA) (hrow.wide fun _ _ h => h)
    have DA := Lib.hid AA
    dsimp only at c1
    clear AA hrow hcl
    go_wp2_with fail
    refine c1.mono ?_
    clear c1
    rintro e w2 ⟨rfl, BA⟩
    have CA := Lib.hid (tr DA.out BA)
    have cw := swakes_any w2 (HG.out.below CA.out) (HE.out.below CA.out)
    clear BA
    go_wp2_with fail
    refine cw.mono ?_
    clear cw
    rintro e w3 ⟨rfl, EA⟩
    have FA := Lib.hid (tr CA.out EA)
    clear EA
    go_wp2_with fail
    go_ret
    exact ⟨rfl, FA.out⟩
end Go.Proofs.YtpbkeamjdolpgaaGreatDoor
