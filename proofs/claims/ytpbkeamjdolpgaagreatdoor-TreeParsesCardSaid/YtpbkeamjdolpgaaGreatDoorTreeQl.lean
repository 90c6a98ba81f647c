/- The walk of the reference's signs of one. -/
import Derived.Test.YtpbkeamjdolpgaaGreatDoorTreeQi
import Derived.Deep.RegionWith
import Derived.Deep.CutRange
namespace Go.Proofs.YtpbkeamjdolpgaaGreatDoor
open Go.RowKit Go.Lib Go.Shelf

theorem cell_set4 {w : World} {b a o : Nat} {v v0 v1 v2 v3 : Value} (h : w.cell? ⟨a, o, none⟩ = some v) (hn : a ≠ b) : ((((w.setCell ⟨b, 0, none⟩ v0).setCell ⟨b, 1, none⟩ v1).setCell ⟨b, 2, none⟩ v2).setCell ⟨b, 3, none⟩ v3).cell? ⟨a, o, none⟩ = some v :=
  (World.cell?_of_block (set4_oth hn)).trans h
/-- What the statement that makes a node of a sign reads. -/
def OpF (C : Ctx) (g len q : Nat) (tx : List UInt8) (w' : World) : Prop := w'.cell? ⟨C.pb, 1, none⟩ = some (.slice (some ⟨g, 0, none⟩) len C.c) ∧ w'.cell? ⟨C.pb, 2, none⟩ = some (.int .i64 q) ∧ w'.cell? ⟨g, q * 3 + 1, none⟩ = some (.string ⟨tx.toArray⟩)
theorem NSt.opf {C : Ctx} {w W : World} {q g len : Nat} {bs : List Bx} {tx : List UInt8} (h : NSt C w W false q bs) (hx : C.x = some ⟨g, 0, none⟩) (hlen : C.ts.length = len) (htx : textT C.ts q = tx) (hq : q < C.ts.length) : OpF C g len q tx W := by
  obtain ⟨c0, c1, c2, c3, _⟩ := h.st.cellsF
  obtain ⟨t, ht⟩ : ∃ t, C.ts[q]? = some t := ⟨C.ts[q]'hq, List.getElem?_eq_getElem hq⟩
  obtain ⟨g', hx', k0, k1, k2⟩ := h.st.row q t ht
  rw [hx] at hx'
  cases hx'
  refine ⟨by rw [← hx, ← hlen]; exact c1, c2, ?_⟩
  have e2 : t.2.1 = tx := by
    unfold textT at htx
    rw [ht] at htx
    exact htx
  rw [← e2]
  exact k1
theorem NSt.drew {C : Ctx} {w W : World} {b : Bool} {p : Nat} {bs : List Bx} (h : NSt C w W b p bs) : NSt C w W.drew b p bs := h.below (Below.drew (Below.refl _ _))
theorem op_place {C : Ctx} {w W0 W : World} {q g len pl : Nat} {bs : List Bx} {tx : List UInt8} (h : NSt C w W false q bs) (ho : Ow C.pb W0 W) (hx : C.x = some ⟨g, 0, none⟩) (hlen : C.ts.length = len) (htx : textT C.ts q = tx) (hq : q < C.ts.length) (hpl : placeT C.ts C.s.size q = pl) :
    Calls Tryz.prog 81 #[.pointer (some ⟨C.pb, 0, none⟩)] W fun e w' => e = .returned (.int .i64 pl) ∧ OpF C g len q tx w' ∧ NSt C w w' false q bs ∧ Ow C.pb W0 w' :=
  (rplace_any C false q W h.st).mono fun e w' ⟨h1, h2⟩ => ⟨by rw [h1, hpl], (h.below h2).opf hx hlen htx hq, h.below h2, ho.below h2⟩
theorem op_place_z {C : Ctx} {w W0 W : World} {q g len pl a : Nat} {bs : List Bx} {tx : List UInt8} {v0 v1 v2 v3 : Value} (h : NSt C w W false q ((a, v0, v1, v2, v3) :: bs)) (ho : Ow C.pb W0 W) (hx : C.x = some ⟨g, 0, none⟩) (hlen : C.ts.length = len) (htx : textT C.ts q = tx) (hq : q < C.ts.length) (hpl : placeT C.ts C.s.size q = pl) :
    Calls Tryz.prog 81 #[.pointer (some ⟨C.pb, 0, none⟩)] W fun e w' => e = .returned (.int .i64 pl) ∧ OpF C g len q tx w' ∧ BoxF w' a v0 v1 v2 v3 ∧ NSt C w w' false q ((a, v0, v1, v2, v3) :: bs) ∧ Ow C.pb W0 w' :=
  (op_place h ho hx hlen htx hq hpl).mono fun _ _ ⟨h1, h2, h3, h4⟩ => ⟨h1, h2, h3.at_ (List.Mem.head _), h3, h4⟩
theorem index_out {C : Ctx} {ex : Nat → Res Nd} {x : Nd} {f p : Nat} {b : Bool} (hne : Tot (indexL C.ts C.s.size ex f x) b p ≠ .out) (hi : (!b && isT C.ts p [91]) = false) : Mt (Tot (indexL C.ts C.s.size ex f x) b p) b p x := by
  cases b
  · have h1 : isT C.ts p [91] = false := by simpa using hi
    rw [tot_go] at hne ⊢
    cases f with
    | zero => exact absurd rfl hne
    | succ f =>
      rw [indexL, h1]
      exact ⟨rfl, rfl, rfl⟩
  · exact ⟨rfl, rfl⟩
theorem Rw.less {B : Nat} {W : World} {ads ads' : List Nat} {l : List Nd} {y : Option Addr} (h : Rw B W ads l y) (hs : ∀ a ∈ ads', a ∈ ads) : Rw B W ads' l y := NdRow.wide h fun _ h _ => ⟨h.1, fun hm => h.2 (hs _ hm)⟩
set_option maxHeartbeats 4000000 in
set_option maxRecDepth 100000 in
theorem runary_step (C : Ctx) (ex : Nat → Res Nd) (hx : ROneQ C 87 ex) (f : Nat) (hf : f ≤ 8192) (gf : Nat) (ih : ∀ k, gf = k + 1 → ROne C 181 (unaryL C.ts C.s.size ex f k)) : ROne C 181 (unaryL C.ts C.s.size ex f gf) := by
  intro w b p h hne
  obtain ⟨R, hR⟩ : ∃ R, Tot (unaryL C.ts C.s.size ex f gf) b p = R := ⟨_, rfl⟩
  have HT : Hid (R = Tot (unaryL C.ts C.s.size ex f gf) b p) := hj hR.symm
  rw [hR] at hne
  have HR := hj hR
  have HNE := hj hne
  have HHX := hj hx
  have HN93 : Hid (NSt C w w b p []) := NSt.start h
  clear hR hne h hx
  have HIH := hj ih
  clear ih
  go_enter Tryz.func181, Tryz.ntmps181
  go_upto_region 1 with (fail)
  have HN94 : Hid (NSt C w (World.alloc w (.cells #[.int .i64 0, .string ⟨#[]⟩, .slice none 0 0, .int .i64 0] 53)) b p [zB w.heap.size]) := hj (HN93.out.alloc _ _ _ _)
  clear HN93
  generalize World.alloc w (.cells #[.int .i64 0, .string ⟨#[]⟩, .slice none 0 0, .int .i64 0] 53) = W95 at HN94 ⊢
  have c96 := ris_any C b p [45] W95 HN94.out.st
  obtain ⟨E97, hE97⟩ : ∃ E, (!b && isT C.ts p [45]) = E := ⟨_, rfl⟩
  rw [hE97] at c96
  have HE97 := hj hE97
  clear hE97
  go_wp2_with fail
  (with_reducible refine c96.mono ?_)
  clear c96
  rintro e V99 ⟨rfl, hb98⟩
  have hb98s := HN94.out.st.below hb98
  have hb98o : Ow C.pb W95 V99 := Ow.of_below hb98
  clear hb98
  have HN100 : Hid (NSt C w V99 b p [zB w.heap.size]) := hj (HN94.out.call hb98s hb98o)
  clear HN94 hb98o hb98s
  have c101 := ris_any C b p [33] V99 HN100.out.st
  obtain ⟨E102, hE102⟩ : ∃ E, (!b && isT C.ts p [33]) = E := ⟨_, rfl⟩
  rw [hE102] at c101
  have HE102 := hj hE102
  clear hE102
  go_wp2_with fail
  (with_reducible refine c101.mono ?_)
  clear c101
  rintro e V104 ⟨rfl, hb103⟩
  have hb103s := HN100.out.st.below hb103
  have hb103o : Ow C.pb V99 V104 := Ow.of_below hb103
  clear hb103
  have HN105 : Hid (NSt C w V104 b p [zB w.heap.size]) := hj (HN100.out.call hb103s hb103o)
  clear HN100 hb103o hb103s
  cases E97
  · cases E102
    · have HT1 : Hid (R = (Tot (atomO C.ts C.s.size ex f) b p).bind fun x q => indexL C.ts C.s.size ex f x q) := by
        show R = _
        rw [HT.out]
        cases b
        · have h1 := HE97.out
          have h2 := HE102.out
          simp only [Bool.not_false, Bool.true_and] at h1 h2
          cases gf with
          | zero => exact absurd HT.out HNE.out
          | succ k =>
            rw [tot_go, tot_go, unaryL, h1, h2]
            rfl
        · rfl
      clear HT
      have c106 := ratom_any C ex HHX.out f hf _ _ _ HN105.out.st (fun e => HNE.out (by rw [HT1.out, e]; rfl))
      unfold RFinN at c106
      go_wp2_with fail
      (with_reducible refine c106.mono ?_)
      clear c106
      rintro e V119 ⟨b107, q108, k113, n114, l115, pp116, y117, cp118, hM109, rfl, hk112, hs110, ho111⟩
      have HN120 : Hid (NSt C w V119 b107 q108 [zB w.heap.size]) := hj (HN105.out.call hs110 ho111)
      have HK121 : Hid (Rw w.heap.size V119 [w.heap.size] l115 y117) := hj (HN105.out.row HN105.out.ow.size hk112)
      clear HN105 ho111 hs110 hk112
      have HT2 : Hid (R = Tot (indexL C.ts C.s.size ex f (.mk k113 n114 l115 pp116)) b107 q108) := by
        show R = _
        rw [HT1.out, hM109.bind]
      clear hM109 HT1
      go_upto_region 10 with (fail)
      have HN122 : Hid (NSt C w (World.alloc V119 (.cells #[.int .i64 k113, .string ⟨n114.toArray⟩, .slice y117 l115.length cp118, .int .i64 pp116] 53)) b107 q108 [nB V119.heap.size k113 n114 y117 l115 cp118 pp116, zB w.heap.size]) := hj (HN120.out.alloc _ _ _ _)
      have HK124 : Hid (Rw w.heap.size (World.alloc V119 (.cells #[.int .i64 k113, .string ⟨n114.toArray⟩, .slice y117 l115.length cp118, .int .i64 pp116] 53)) [V119.heap.size, w.heap.size] l115 y117) := hj (HK121.out.alloc _)
      clear HN120 HK121
      generalize World.alloc V119 (.cells #[.int .i64 k113, .string ⟨n114.toArray⟩, .slice y117 l115.length cp118, .int .i64 pp116] 53) = W123 at HN122 HK124 ⊢
      have c125 := ris_any C b107 q108 [91] W123 HN122.out.st
      obtain ⟨E126, hE126⟩ : ∃ E, (!b107 && isT C.ts q108 [91]) = E := ⟨_, rfl⟩
      rw [hE126] at c125
      have HE126 := hj hE126
      clear hE126
      go_wp2_with fail
      (with_reducible refine c125.mono ?_)
      clear c125
      rintro e V128 ⟨rfl, hb127⟩
      have hb127s := HN122.out.st.below hb127
      have hb127o : Ow C.pb W123 V128 := Ow.of_below hb127
      clear hb127
      have HN129 : Hid (NSt C w V128 b107 q108 [nB V119.heap.size k113 n114 y117 l115 cp118 pp116, zB w.heap.size]) := hj (HN122.out.call hb127s hb127o)
      have HK130 : Hid (Rw w.heap.size V128 [V119.heap.size, w.heap.size] l115 y117) := hj (HK124.out.call HN122.out.pb hb127o)
      clear HN122 HK124 hb127o hb127s
      go_wp2_with fail
      go_loopg [8] f (fun g u wx => ∃ (E b : Bool) (q f0 : Nat) (k : Int) (n : List UInt8) (kids : List Nd) (y : Option Addr) (c : Nat) (pp : Int), u = .bool E ∧ NSt C w wx b q [nB V119.heap.size k n y kids c pp, zB w.heap.size] ∧ Rw w.heap.size wx [V119.heap.size, w.heap.size] kids y ∧ Hid (R = Tot (indexL C.ts C.s.size ex f0 (.mk k n kids pp)) b q) ∧ Hid ((!b && isT C.ts q [91]) = E) ∧ f0 ≤ g)
      case atStart => exact ⟨E126, b107, q108, f, k113, n114, l115, y117, cp118, pp116, rfl, HN129.out, HK130.out, HT2, HE126, Nat.le_refl _⟩
      case round =>
        clear HN129 HK130 HT2 HE126
        obtain ⟨E, b9, q, f0, k, n, kids, y, c, pp, rfl, hN, hK, hS, hE, hf0⟩ := hrel
        have HNr := hj hN
        have HKr := hj hK
        clear hN hK
        cases E
        · have HM : Hid (Mt R b9 q (.mk k n kids pp)) := by
            show Mt _ _ _ _
            have hne := HNE.out
            rw [hS.out] at hne ⊢
            exact index_out hne hE.out
          clear hS hE hf0
          obtain ⟨x0, x1, x2, x3, xf⟩ : BoxF wr (V119.heap.size) (.int .i64 k) (.string ⟨n.toArray⟩) (.slice y kids.length c) (.int .i64 pp) := HNr.out.at_ (List.Mem.head _)
          obtain ⟨r0, r1, r2, r3, rf⟩ : BoxF wr (w.heap.size) (.int .i64 0) (.string ⟨#[]⟩) (.slice none 0 0) (.int .i64 0) := HNr.out.at_ (List.Mem.tail _ (List.Mem.head _))
          have HN131 : Hid (NSt C w (S4 wr w.heap.size (.int .i64 k) (.string ⟨n.toArray⟩) (.slice y kids.length c) (.int .i64 pp)) b9 q [nB V119.heap.size k n y kids c pp, nB w.heap.size k n y kids c pp]) := hj (NSt.set4 (pre := [nB V119.heap.size k n y kids c pp]) HNr.out)
          have HK132 : Hid (Rw w.heap.size (S4 wr w.heap.size (.int .i64 k) (.string ⟨n.toArray⟩) (.slice y kids.length c) (.int .i64 pp)) [V119.heap.size, w.heap.size] kids y) := hj (HKr.out.set4 (List.Mem.tail _ (List.Mem.head _)))
          have HW : Hid (w.heap.size ≤ w.heap.size) := hj (Nat.le_refl _)
          have HF : Hid (RFinN C w (unaryL C.ts C.s.size ex f gf) b p (.returned (.agg #[.int .i64 k, .string ⟨n.toArray⟩, .slice y kids.length c, .int .i64 pp])) (S4 wr w.heap.size (.int .i64 k) (.string ⟨n.toArray⟩) (.slice y kids.length c) (.int .i64 pp))) := hj (NSt.fin (n := n) (l := kids) HN131.out HW.out (by rw [HR.out]; exact HM.out) HK132.out)
          clear HNr HN131 HW HM HK132 HKr
          go_wp2_with fail
          exact ret_node rfl rfl rfl (by simp [go_sem, r0]) (by simp [go_sem, r1]) (by simp [go_sem, r2]) (by simp [go_sem, r3]) HF.out
        · obtain ⟨rfl, hi⟩ : b9 = false ∧ isT C.ts q [91] = true := by
            have := hE.out
            cases b9 <;> simp_all
          have HI := hj hi
          clear hi hE
          obtain ⟨f1, rfl⟩ : ∃ f1, f0 = f1 + 1 := by
            cases f0 with
            | zero => exact absurd hS.out HNE.out
            | succ f1 => exact ⟨f1, rfl⟩
          have HT1 : Hid (R = (Tot ex false (q + 1)).bind fun y' r => (takeP C.ts C.s.size [93] r).bind fun _ e => indexL C.ts C.s.size ex f1 (.mk 14 [] [.mk k n kids pp, y'] (placeT C.ts C.s.size q)) e) := by
            show R = _
            rw [hS.out, tot_go, indexL, if_pos HI.out]
            rfl
          clear hS
          have c133 := rtake_any C false q [91] wr HNr.out.st
          obtain ⟨pl134, hpl134⟩ : ∃ pl, placeT C.ts C.s.size q = pl := ⟨_, rfl⟩
          rw [hpl134] at c133
          have Hpl134 := hj hpl134
          clear hpl134
          go_wp2_with fail
          (with_reducible refine c133.mono ?_)
          clear c133
          rintro e V141 ⟨b135, q136, a140, hM137, rfl, hs138, ho139⟩
          have hM137' := hM137.place
          rw [Hpl134.out] at hM137'
          clear hM137
          have HN142 : Hid (NSt C w V141 b135 q136 [nB V119.heap.size k n y kids c pp, zB w.heap.size]) := hj (HNr.out.call hs138 ho139)
          have HK143 : Hid (Rw w.heap.size V141 [V119.heap.size, w.heap.size] kids y) := hj (HKr.out.call HNr.out.pb ho139)
          clear HNr HKr ho139 hs138
          obtain ⟨rfl, rfl⟩ := take_t HI.out hM137'
          clear hM137'
          have c144 := HHX.out _ _ _ HN142.out.st (fun e => HNE.out (by rw [HT1.out, e]; rfl)) ⟨_, fun e => HNE.out (by rw [HT1.out, tot_go, e]; rfl)⟩
          unfold RFinN at c144
          go_wp2_with fail
          (with_reducible refine c144.mono ?_)
          clear c144
          rintro e V157 ⟨b145, q146, k151, n152, l153, pp154, y155, cp156, hM147, rfl, hk150, hs148, ho149⟩
          have HN158 : Hid (NSt C w V157 b145 q146 [nB V119.heap.size k n y kids c pp, zB w.heap.size]) := hj (HN142.out.call hs148 ho149)
          have HK159 : Hid (Rw w.heap.size V157 [V119.heap.size, w.heap.size] kids y) := hj (HK143.out.call HN142.out.pb ho149)
          have HK160 : Hid (Rw w.heap.size V157 [V119.heap.size, w.heap.size] l153 y155) := hj (HN142.out.row HN142.out.ow.size hk150)
          clear HN142 HK143 ho149 hs148 hk150
          have HT2 : Hid (R = (Tot (takeP C.ts C.s.size [93]) b145 q146).bind fun _ e => indexL C.ts C.s.size ex f1 (.mk 14 [] [.mk k n kids pp, (.mk k151 n152 l153 pp154)] (pl134 : Int)) e) := by
            show R = _
            rw [HT1.out, hM147.bind, Hpl134.out, ← tot_bind]
          clear hM147 HT1
          go_upto_region 14 with (fail)
          have HN161 : Hid (NSt C w (World.alloc V157 (.cells #[.int .i64 k151, .string ⟨n152.toArray⟩, .slice y155 l153.length cp156, .int .i64 pp154] 53)) b145 q146 [nB V157.heap.size k151 n152 y155 l153 cp156 pp154, nB V119.heap.size k n y kids c pp, zB w.heap.size]) := hj (HN158.out.alloc _ _ _ _)
          have HK163 : Hid (Rw w.heap.size (World.alloc V157 (.cells #[.int .i64 k151, .string ⟨n152.toArray⟩, .slice y155 l153.length cp156, .int .i64 pp154] 53)) [V157.heap.size, V119.heap.size, w.heap.size] kids y) := hj (HK159.out.alloc _)
          have HK164 : Hid (Rw w.heap.size (World.alloc V157 (.cells #[.int .i64 k151, .string ⟨n152.toArray⟩, .slice y155 l153.length cp156, .int .i64 pp154] 53)) [V157.heap.size, V119.heap.size, w.heap.size] l153 y155) := hj (HK160.out.alloc _)
          clear HN158 HK159 HK160
          generalize World.alloc V157 (.cells #[.int .i64 k151, .string ⟨n152.toArray⟩, .slice y155 l153.length cp156, .int .i64 pp154] 53) = W162 at HN161 HK163 HK164 ⊢
          have c165 := rtake_any C b145 q146 [93] W162 HN161.out.st
          obtain ⟨pl166, hpl166⟩ : ∃ pl, placeT C.ts C.s.size q146 = pl := ⟨_, rfl⟩
          rw [hpl166] at c165
          have Hpl166 := hj hpl166
          clear hpl166
          go_wp2_with fail
          (with_reducible refine c165.mono ?_)
          clear c165
          rintro e V173 ⟨b167, q168, a172, hM169, rfl, hs170, ho171⟩
          have hM169' := hM169.place
          rw [Hpl166.out] at hM169'
          clear hM169
          have HN174 : Hid (NSt C w V173 b167 q168 [nB V157.heap.size k151 n152 y155 l153 cp156 pp154, nB V119.heap.size k n y kids c pp, zB w.heap.size]) := hj (HN161.out.call hs170 ho171)
          have HK175 : Hid (Rw w.heap.size V173 [V157.heap.size, V119.heap.size, w.heap.size] kids y) := hj (HK163.out.call HN161.out.pb ho171)
          have HK176 : Hid (Rw w.heap.size V173 [V157.heap.size, V119.heap.size, w.heap.size] l153 y155) := hj (HK164.out.call HN161.out.pb ho171)
          clear HN161 HK163 HK164 ho171 hs170
          have HT3 : Hid (R = Tot (indexL C.ts C.s.size ex f1 (.mk 14 [] [.mk k n kids pp, (.mk k151 n152 l153 pp154)] (pl134 : Int))) b167 q168) := by
            show R = _
            rw [HT2.out, hM169'.bind]
          clear hM169' HT2
          obtain ⟨x0, x1, x2, x3, xf⟩ : BoxF V173 (V119.heap.size) (.int .i64 k) (.string ⟨n.toArray⟩) (.slice y kids.length c) (.int .i64 pp) := HN174.out.at_ (List.Mem.tail _ (List.Mem.head _))
          obtain ⟨z0, z1, z2, z3, zf⟩ : BoxF V173 (V157.heap.size) (.int .i64 k151) (.string ⟨n152.toArray⟩) (.slice y155 l153.length cp156) (.int .i64 pp154) := HN174.out.at_ (List.Mem.head _)
          have xa0 := fun o => al_cell x0 o
          have xa1 := fun o => al_cell x1 o
          have xa2 := fun o => al_cell x2 o
          have xa3 := fun o => al_cell x3 o
          have xaf : ∀ ob o, (World.alloc V173 ob).frozen? ⟨V119.heap.size, o, none⟩ = false := fun ob o => ((HN174.out.bx _ (List.Mem.tail _ (List.Mem.head _))).2.alloc ob).facts.2.2.2.2 o
          go_upto_region 16 with (fail)
          clear x0 x1 x2 x3 xf z0 z1 z2 z3 zf
          clear xa0 xa1 xa2 xa3 xaf
          have HK177 : Hid (Rw w.heap.size (World.alloc V173 (.cells #[.int .i64 k, .string ⟨n.toArray⟩, .slice y kids.length c, .int .i64 pp, .int .i64 k151, .string ⟨n152.toArray⟩, .slice y155 l153.length cp156, .int .i64 pp154] 53)) [V157.heap.size, V119.heap.size, w.heap.size] [.mk k n kids pp, (.mk k151 n152 l153 pp154)] (some ⟨V173.heap.size, 0, none⟩)) := hj (Rw.two HN174.out HN174.out.ow.size HK175.out HK176.out)
          have HN178 : Hid (NSt C w (World.alloc V173 (.cells #[.int .i64 k, .string ⟨n.toArray⟩, .slice y kids.length c, .int .i64 pp, .int .i64 k151, .string ⟨n152.toArray⟩, .slice y155 l153.length cp156, .int .i64 pp154] 53)) b167 q168 [nB V157.heap.size k151 n152 y155 l153 cp156 pp154, nB V119.heap.size k n y kids c pp, zB w.heap.size]) := hj (HN174.out.blk _)
          clear HN174 HK175 HK176
          have HN179 : Hid (NSt C w ((World.setCell (World.setCell (World.setCell (World.setCell (World.alloc V173 (.cells #[.int .i64 k, .string ⟨n.toArray⟩, .slice y kids.length c, .int .i64 pp, .int .i64 k151, .string ⟨n152.toArray⟩, .slice y155 l153.length cp156, .int .i64 pp154] 53)) ⟨V119.heap.size, 0, none⟩ (.int .i64 14)) ⟨V119.heap.size, 1, none⟩ (.string ⟨#[]⟩)) ⟨V119.heap.size, 2, none⟩ (.slice (some ⟨V173.heap.size, 0, none⟩) 2 2)) ⟨V119.heap.size, 3, none⟩ (.int .i64 pl134))) b167 q168 [nB V157.heap.size k151 n152 y155 l153 cp156 pp154, (V119.heap.size, .int .i64 14, .string ⟨#[]⟩, .slice (some ⟨V173.heap.size, 0, none⟩) 2 2, .int .i64 pl134), zB w.heap.size]) := hj (NSt.set4 (pre := [nB V157.heap.size k151 n152 y155 l153 cp156 pp154]) HN178.out)
          have HK181 : Hid (Rw w.heap.size ((World.setCell (World.setCell (World.setCell (World.setCell (World.alloc V173 (.cells #[.int .i64 k, .string ⟨n.toArray⟩, .slice y kids.length c, .int .i64 pp, .int .i64 k151, .string ⟨n152.toArray⟩, .slice y155 l153.length cp156, .int .i64 pp154] 53)) ⟨V119.heap.size, 0, none⟩ (.int .i64 14)) ⟨V119.heap.size, 1, none⟩ (.string ⟨#[]⟩)) ⟨V119.heap.size, 2, none⟩ (.slice (some ⟨V173.heap.size, 0, none⟩) 2 2)) ⟨V119.heap.size, 3, none⟩ (.int .i64 pl134))) [V157.heap.size, V119.heap.size, w.heap.size] [.mk k n kids pp, (.mk k151 n152 l153 pp154)] (some ⟨V173.heap.size, 0, none⟩)) := hj (HK177.out.set4 (List.Mem.tail _ (List.Mem.head _)))
          clear HN178 HK177
          generalize (World.setCell (World.setCell (World.setCell (World.setCell (World.alloc V173 (.cells #[.int .i64 k, .string ⟨n.toArray⟩, .slice y kids.length c, .int .i64 pp, .int .i64 k151, .string ⟨n152.toArray⟩, .slice y155 l153.length cp156, .int .i64 pp154] 53)) ⟨V119.heap.size, 0, none⟩ (.int .i64 14)) ⟨V119.heap.size, 1, none⟩ (.string ⟨#[]⟩)) ⟨V119.heap.size, 2, none⟩ (.slice (some ⟨V173.heap.size, 0, none⟩) 2 2)) ⟨V119.heap.size, 3, none⟩ (.int .i64 pl134)) = W180 at HN179 HK181 ⊢
          have HN182 : Hid (NSt C w W180 b167 q168 [(V119.heap.size, .int .i64 14, .string ⟨#[]⟩, .slice (some ⟨V173.heap.size, 0, none⟩) 2 2, .int .i64 pl134), zB w.heap.size]) := hj (HN179.out.sub (List.Sublist.cons _ (List.Sublist.refl _)))
          clear HN179
          have HK183 : Hid (Rw w.heap.size W180 [V119.heap.size, w.heap.size] [.mk k n kids pp, (.mk k151 n152 l153 pp154)] (some ⟨V173.heap.size, 0, none⟩)) := hj (HK181.out.less (fun a ha => List.Mem.tail _ ha))
          clear HK181
          have c184 := ris_any C b167 q168 [91] W180 HN182.out.st
          obtain ⟨E185, hE185⟩ : ∃ E, (!b167 && isT C.ts q168 [91]) = E := ⟨_, rfl⟩
          rw [hE185] at c184
          have HE185 := hj hE185
          clear hE185
          go_wp2_with fail
          (with_reducible refine c184.mono ?_)
          clear c184
          rintro e V187 ⟨rfl, hb186⟩
          have hb186s := HN182.out.st.below hb186
          have hb186o : Ow C.pb W180 V187 := Ow.of_below hb186
          clear hb186
          have HN188 : Hid (NSt C w V187 b167 q168 [(V119.heap.size, .int .i64 14, .string ⟨#[]⟩, .slice (some ⟨V173.heap.size, 0, none⟩) 2 2, .int .i64 pl134), zB w.heap.size]) := hj (HN182.out.call hb186s hb186o)
          have HK189 : Hid (Rw w.heap.size V187 [V119.heap.size, w.heap.size] [.mk k n kids pp, (.mk k151 n152 l153 pp154)] (some ⟨V173.heap.size, 0, none⟩)) := hj (HK183.out.call HN182.out.pb hb186o)
          clear HN182 HK183 hb186o hb186s
          go_wp2_with fail
          go_roundg (gk - 1)
          case measure => omega
          case rel => exact ⟨E185, b167, q168, f1, 14, [], [.mk k n kids pp, (.mk k151 n152 l153 pp154)], (some ⟨V173.heap.size, 0, none⟩), 2, (pl134 : Int), rfl, HN188.out, HK189.out, HT3, HE185, by omega⟩
    · obtain ⟨rfl, hHI⟩ : b = false ∧ isT C.ts p [33] = true := by
        have := HE102.out
        cases b <;> simp_all
      have HI := hj hHI
      clear hHI
      have HS : Hid ((isT C.ts p [45] || isT C.ts p [33]) = true) := by
        show _ = true
        rw [HI.out]
        simp
      have HPN : Hid (p < C.ts.length) := isT_lt HI.out
      obtain ⟨gf, rfl⟩ : ∃ k, gf = k + 1 := by
        cases gf with
        | zero => exact absurd HT.out HNE.out
        | succ k => exact ⟨k, rfl⟩
      obtain ⟨tx, htx⟩ : ∃ tx, textT C.ts p = tx := ⟨_, rfl⟩
      obtain ⟨pl, hpl⟩ : ∃ pl, placeT C.ts C.s.size p = pl := ⟨_, rfl⟩
      have HTX := hj htx
      have HPL := hj hpl
      clear htx hpl
      go_upto_region 4 with (fail)
      go_cut [5] from 19 to 33 (fun v wx => ∃ a : Nat, v = .pointer (some ⟨a, 0, none⟩) ∧ NSt C w wx false p [(a, .int .i64 12, .string ⟨tx.toArray⟩, .slice none 0 0, .int .i64 pl), zB w.heap.size])
      case first =>
        obtain ⟨t, ht⟩ : ∃ t, C.ts[p]? = some t := ⟨C.ts[p]'HPN.out, List.getElem?_eq_getElem _⟩
        obtain ⟨g1, hx, -, -, -⟩ := HN105.out.st.row p t ht
        obtain ⟨len, hlen⟩ : ∃ len, C.ts.length = len := ⟨_, rfl⟩
        obtain ⟨f1, f2, f3⟩ := HN105.out.opf hx hlen HTX.out HPN.out
        have cB := op_place HN105.out.drew ((Ow.refl C.pb V104).drew) hx hlen HTX.out HPN.out HPL.out
        have cA := op_place_z (HN105.out.alloc (.int .i64 0) (.string ⟨#[]⟩) (.slice none 0 0) (.int .i64 0)).drew ((Ow.refl C.pb (V104.alloc (.cells #[.int .i64 0, .string ⟨#[]⟩, .slice none 0 0, .int .i64 0] 53))).drew) hx hlen HTX.out HPN.out HPL.out
        have hp : p < len := by have := HPN.out; omega
        have hl : len ≤ 4096 := by have := HN105.out.st.len; omega
        have fa1 := fun o => al_cell f1 o
        have fa2 := fun o => al_cell f2 o
        have fa3 := fun o => al_cell f3 o
        have hn1 : C.pb ≠ V104.heap.size := by have := HN105.out.st.lt; omega
        have hn2 : g1 ≠ V104.heap.size := by
          have h : g1 < V104.heap.size := World.block_lt_of_cell? V104 _ f3
          omega
        have d1 : (V104.drew).cell? ⟨C.pb, 1, none⟩ = some (.slice (some ⟨g1, 0, none⟩) len C.c) := f1
        have d2 : (V104.drew).cell? ⟨C.pb, 2, none⟩ = some (.int .i64 p) := f2
        have d3 : (V104.drew).cell? ⟨g1, p * 3 + 1, none⟩ = some (.string ⟨tx.toArray⟩) := f3
        have da1 : ∀ o, (V104.alloc o).drew.cell? ⟨C.pb, 1, none⟩ = some (.slice (some ⟨g1, 0, none⟩) len C.c) := fa1
        have da2 : ∀ o, (V104.alloc o).drew.cell? ⟨C.pb, 2, none⟩ = some (.int .i64 p) := fa2
        have da3 : ∀ o, (V104.alloc o).drew.cell? ⟨g1, p * 3 + 1, none⟩ = some (.string ⟨tx.toArray⟩) := fa3
        clear ht hx hlen
        go_region_held3 (fun w' => w'.cell? ⟨C.pb, 1, none⟩ = some (.slice (some ⟨g1, 0, none⟩) len C.c) ∧ w'.cell? ⟨C.pb, 2, none⟩ = some (.int .i64 p) ∧ w'.cell? ⟨g1, p * 3 + 1, none⟩ = some (.string ⟨tx.toArray⟩)) (first | with_reducible exact ⟨f1, f2, f3⟩ | with_reducible exact ⟨d1, d2, d3⟩ | with_reducible exact ⟨da1 _, da2 _, da3 _⟩ | with_reducible exact ⟨fa1 _, fa2 _, fa3 _⟩ | with_reducible exact ⟨fb1 _, fb2 _, fb3 _⟩ | with_reducible exact ⟨cell_set4 f1 hn1, cell_set4 f2 hn1, cell_set4 f3 hn2⟩) (first | (go_at_call 81; (with_reducible refine cA.mono ?_); rintro e w6 ⟨rfl, ⟨f1, f2, f3⟩, ⟨g0, g1c, g2c, g3c, gf⟩, hN6, hO6⟩) | (go_at_call 81; (with_reducible refine cB.mono ?_); rintro e w6 ⟨rfl, ⟨f1, f2, f3⟩, hN6, hO6⟩; have fb1 := fun o => al_cell f1 o; have fb2 := fun o => al_cell f2 o; have fb3 := fun o => al_cell f3 o))
        all_goals go_wp2_with fail
        all_goals go_meet
        all_goals (first | exact ⟨_, rfl, hN6.alloc _ _ _ _⟩ | exact ⟨_, rfl, NSt.set4 (pre := []) hN6⟩)
      case rest =>
        obtain ⟨a, rfl, hN⟩ := hcut
        have HNc := hj hN
        clear hN
        clear HN105
        have HT1 : Hid (R = (Tot (unaryL C.ts C.s.size ex f gf) false (p + 1)).bind fun x q => .ok (.mk 12 tx [x] (pl : Int)) q) := by
          show R = _
          rw [HT.out, tot_go, unaryL, if_pos HS.out, HTX.out, HPL.out]
          rfl
        clear HT
        obtain ⟨x1901, x1902, x1903, x1904⟩ : wc.cell? ⟨C.pb, 2, none⟩ = some (.int .i64 p) ∧ wc.frozen? ⟨C.pb, 2, none⟩ = false ∧ p < C.ts.length ∧ C.ts.length ≤ 4096 := ⟨HNc.out.st.cellsF.2.2.1, HNc.out.st.cellsF.2.2.2.2.1, HPN.out, HNc.out.st.len⟩
        have x1905 : IntKind.i64.wrap ((p : Int) + 1) = (p : Int) + 1 := IntWalk.i64_in _ (by omega)
        have x1906 := hj x1903
        clear x1903 x1904
        go_upto_region 6 with (fail)
        clear x1901 x1902 x1905
        have HN191 : Hid (NSt C w (World.setCell wc ⟨C.pb, 2, none⟩ (.int .i64 ((p : Int) + 1))) false (p + 1) [(a, .int .i64 12, .string ⟨tx.toArray⟩, .slice none 0 0, .int .i64 pl), zB w.heap.size]) := hj (HNc.out.step (q := p + 1) x1906.out)
        clear HNc
        generalize World.setCell wc ⟨C.pb, 2, none⟩ (.int .i64 ((p : Int) + 1)) = W192 at HN191 ⊢
        have c193 := HIH.out gf rfl _ _ _ HN191.out.st (fun e => HNE.out (by rw [HT1.out, e]; rfl))
        unfold RFinN at c193
        go_wp2_with fail
        (with_reducible refine c193.mono ?_)
        clear c193
        rintro e V206 ⟨b194, q195, k200, n201, l202, pp203, y204, cp205, hM196, rfl, hk199, hs197, ho198⟩
        have HN207 : Hid (NSt C w V206 b194 q195 [(a, .int .i64 12, .string ⟨tx.toArray⟩, .slice none 0 0, .int .i64 pl), zB w.heap.size]) := hj (HN191.out.call hs197 ho198)
        have HK208 : Hid (Rw w.heap.size V206 [a, w.heap.size] l202 y204) := hj (HN191.out.row HN191.out.ow.size hk199)
        clear HN191 ho198 hs197 hk199
        have HM : Hid (Mt R b194 q195 (.mk 12 tx [(.mk k200 n201 l202 pp203)] (pl : Int))) := by
          show Mt _ _ _ _
          rw [HT1.out, hM196.bind]
          exact Mt.ret _ _ _
        clear hM196 HT1
        go_upto_region 7 with (fail)
        have HN209 : Hid (NSt C w (World.alloc V206 (.cells #[.int .i64 k200, .string ⟨n201.toArray⟩, .slice y204 l202.length cp205, .int .i64 pp203] 53)) b194 q195 [nB V206.heap.size k200 n201 y204 l202 cp205 pp203, (a, .int .i64 12, .string ⟨tx.toArray⟩, .slice none 0 0, .int .i64 pl), zB w.heap.size]) := hj (HN207.out.alloc _ _ _ _)
        have HK211 : Hid (Rw w.heap.size (World.alloc V206 (.cells #[.int .i64 k200, .string ⟨n201.toArray⟩, .slice y204 l202.length cp205, .int .i64 pp203] 53)) [V206.heap.size, a, w.heap.size] l202 y204) := hj (HK208.out.alloc _)
        clear HN207 HK208
        generalize World.alloc V206 (.cells #[.int .i64 k200, .string ⟨n201.toArray⟩, .slice y204 l202.length cp205, .int .i64 pp203] 53) = W210 at HN209 HK211 ⊢
        obtain ⟨u00, u01, u02, u03, u0f⟩ : BoxF W210 (V206.heap.size) (.int .i64 k200) (.string ⟨n201.toArray⟩) (.slice y204 l202.length cp205) (.int .i64 pp203) := HN209.out.at_ (List.Mem.head _)
        obtain ⟨n0, n1, n2, n3, nf⟩ : BoxF W210 a (.int .i64 12) (.string ⟨tx.toArray⟩) (.slice none 0 0) (.int .i64 pl) := HN209.out.at_ (List.Mem.tail _ (List.Mem.head _))
        have na0 := fun o => al_cell n0 o
        have na1 := fun o => al_cell n1 o
        have na2 := fun o => al_cell n2 o
        have na3 := fun o => al_cell n3 o
        have naf : ∀ ob o, (World.alloc W210 ob).frozen? ⟨a, o, none⟩ = false := fun ob o => ((HN209.out.bx _ (List.Mem.tail _ (List.Mem.head _))).2.alloc ob).facts.2.2.2.2 o
        go_upto_region 8 with (fail)
        clear n0 n1 n2 n3 nf u00 u01 u02 u03 u0f
        clear na0 na1 na2 na3 naf
        have HK212 : Hid (Rw w.heap.size (World.alloc W210 (.cells #[.int .i64 k200, .string ⟨n201.toArray⟩, .slice y204 l202.length cp205, .int .i64 pp203] 53)) [V206.heap.size, a, w.heap.size] [(.mk k200 n201 l202 pp203)] (some ⟨W210.heap.size, 0, none⟩)) := hj (Rw.one HN209.out HN209.out.ow.size HK211.out)
        have HN213 : Hid (NSt C w (World.alloc W210 (.cells #[.int .i64 k200, .string ⟨n201.toArray⟩, .slice y204 l202.length cp205, .int .i64 pp203] 53)) b194 q195 [nB V206.heap.size k200 n201 y204 l202 cp205 pp203, (a, .int .i64 12, .string ⟨tx.toArray⟩, .slice none 0 0, .int .i64 pl), zB w.heap.size]) := hj (HN209.out.blk _)
        clear HN209 HK211
        have HN214 : Hid (NSt C w (World.setCell (World.alloc W210 (.cells #[.int .i64 k200, .string ⟨n201.toArray⟩, .slice y204 l202.length cp205, .int .i64 pp203] 53)) ⟨a, 2, none⟩ (.slice (some ⟨W210.heap.size, 0, none⟩) 1 1)) b194 q195 [nB V206.heap.size k200 n201 y204 l202 cp205 pp203, (a, .int .i64 12, .string ⟨tx.toArray⟩, .slice (some ⟨W210.heap.size, 0, none⟩) 1 1, .int .i64 pl), zB w.heap.size]) := hj (NSt.set2 (pre := [nB V206.heap.size k200 n201 y204 l202 cp205 pp203]) HN213.out)
        have HK216 : Hid (Rw w.heap.size (World.setCell (World.alloc W210 (.cells #[.int .i64 k200, .string ⟨n201.toArray⟩, .slice y204 l202.length cp205, .int .i64 pp203] 53)) ⟨a, 2, none⟩ (.slice (some ⟨W210.heap.size, 0, none⟩) 1 1)) [V206.heap.size, a, w.heap.size] [(.mk k200 n201 l202 pp203)] (some ⟨W210.heap.size, 0, none⟩)) := hj (HK212.out.set (List.Mem.tail _ (List.Mem.head _)))
        clear HN213 HK212
        generalize World.setCell (World.alloc W210 (.cells #[.int .i64 k200, .string ⟨n201.toArray⟩, .slice y204 l202.length cp205, .int .i64 pp203] 53)) ⟨a, 2, none⟩ (.slice (some ⟨W210.heap.size, 0, none⟩) 1 1) = W215 at HN214 HK216 ⊢
        obtain ⟨n0, n1, n2, n3, nf⟩ : BoxF W215 a (.int .i64 12) (.string ⟨tx.toArray⟩) (.slice (some ⟨W210.heap.size, 0, none⟩) 1 1) (.int .i64 pl) := HN214.out.at_ (List.Mem.tail _ (List.Mem.head _))
        obtain ⟨r0, r1, r2, r3, rf⟩ : BoxF W215 (w.heap.size) (.int .i64 0) (.string ⟨#[]⟩) (.slice none 0 0) (.int .i64 0) := HN214.out.at_ (List.Mem.tail _ (List.Mem.tail _ (List.Mem.head _)))
        have HN217 : Hid (NSt C w (S4 W215 w.heap.size (.int .i64 12) (.string ⟨tx.toArray⟩) (.slice (some ⟨W210.heap.size, 0, none⟩) 1 1) (.int .i64 pl)) b194 q195 [nB V206.heap.size k200 n201 y204 l202 cp205 pp203, (a, .int .i64 12, .string ⟨tx.toArray⟩, .slice (some ⟨W210.heap.size, 0, none⟩) 1 1, .int .i64 pl), (w.heap.size, .int .i64 12, .string ⟨tx.toArray⟩, .slice (some ⟨W210.heap.size, 0, none⟩) 1 1, .int .i64 pl)]) := hj (NSt.set4 (pre := [nB V206.heap.size k200 n201 y204 l202 cp205 pp203, (a, .int .i64 12, .string ⟨tx.toArray⟩, .slice (some ⟨W210.heap.size, 0, none⟩) 1 1, .int .i64 pl)]) HN214.out)
        have HK218 : Hid (Rw w.heap.size (S4 W215 w.heap.size (.int .i64 12) (.string ⟨tx.toArray⟩) (.slice (some ⟨W210.heap.size, 0, none⟩) 1 1) (.int .i64 pl)) [V206.heap.size, a, w.heap.size] [(.mk k200 n201 l202 pp203)] (some ⟨W210.heap.size, 0, none⟩)) := hj (HK216.out.set4 (List.Mem.tail _ (List.Mem.tail _ (List.Mem.head _))))
        have HW : Hid (w.heap.size ≤ w.heap.size) := hj (Nat.le_refl _)
        have HF : Hid (RFinN C w (unaryL C.ts C.s.size ex f (gf + 1)) false p (.returned (.agg #[.int .i64 12, .string ⟨tx.toArray⟩, .slice (some ⟨W210.heap.size, 0, none⟩) 1 1, .int .i64 pl])) (S4 W215 w.heap.size (.int .i64 12) (.string ⟨tx.toArray⟩) (.slice (some ⟨W210.heap.size, 0, none⟩) 1 1) (.int .i64 pl))) := hj (NSt.fin (n := tx) (l := [(.mk k200 n201 l202 pp203)]) HN217.out HW.out (by rw [HR.out]; exact HM.out) HK218.out)
        clear HN214 HN217 HW HM HK218 HK216
        go_wp2_with fail
        exact ret_node rfl rfl rfl (by simp [go_sem, r0]) (by simp [go_sem, r1]) (by simp [go_sem, r2]) (by simp [go_sem, r3]) HF.out
  · obtain ⟨rfl, hHI⟩ : b = false ∧ isT C.ts p [45] = true := by
      have := HE97.out
      cases b <;> simp_all
    have HI := hj hHI
    clear hHI
    have HS : Hid ((isT C.ts p [45] || isT C.ts p [33]) = true) := by
      show _ = true
      rw [HI.out]
      rfl
    have HPN : Hid (p < C.ts.length) := isT_lt HI.out
    obtain ⟨gf, rfl⟩ : ∃ k, gf = k + 1 := by
      cases gf with
      | zero => exact absurd HT.out HNE.out
      | succ k => exact ⟨k, rfl⟩
    obtain ⟨tx, htx⟩ : ∃ tx, textT C.ts p = tx := ⟨_, rfl⟩
    obtain ⟨pl, hpl⟩ : ∃ pl, placeT C.ts C.s.size p = pl := ⟨_, rfl⟩
    have HTX := hj htx
    have HPL := hj hpl
    clear htx hpl
    go_upto_region 4 with (fail)
    go_cut [5] from 19 to 33 (fun v wx => ∃ a : Nat, v = .pointer (some ⟨a, 0, none⟩) ∧ NSt C w wx false p [(a, .int .i64 12, .string ⟨tx.toArray⟩, .slice none 0 0, .int .i64 pl), zB w.heap.size])
    case first =>
      obtain ⟨t, ht⟩ : ∃ t, C.ts[p]? = some t := ⟨C.ts[p]'HPN.out, List.getElem?_eq_getElem _⟩
      obtain ⟨g1, hx, -, -, -⟩ := HN105.out.st.row p t ht
      obtain ⟨len, hlen⟩ : ∃ len, C.ts.length = len := ⟨_, rfl⟩
      obtain ⟨f1, f2, f3⟩ := HN105.out.opf hx hlen HTX.out HPN.out
      have cB := op_place HN105.out.drew ((Ow.refl C.pb V104).drew) hx hlen HTX.out HPN.out HPL.out
      have cA := op_place_z (HN105.out.alloc (.int .i64 0) (.string ⟨#[]⟩) (.slice none 0 0) (.int .i64 0)).drew ((Ow.refl C.pb (V104.alloc (.cells #[.int .i64 0, .string ⟨#[]⟩, .slice none 0 0, .int .i64 0] 53))).drew) hx hlen HTX.out HPN.out HPL.out
      have hp : p < len := by have := HPN.out; omega
      have hl : len ≤ 4096 := by have := HN105.out.st.len; omega
      have fa1 := fun o => al_cell f1 o
      have fa2 := fun o => al_cell f2 o
      have fa3 := fun o => al_cell f3 o
      have hn1 : C.pb ≠ V104.heap.size := by have := HN105.out.st.lt; omega
      have hn2 : g1 ≠ V104.heap.size := by
        have h : g1 < V104.heap.size := World.block_lt_of_cell? V104 _ f3
        omega
      have d1 : (V104.drew).cell? ⟨C.pb, 1, none⟩ = some (.slice (some ⟨g1, 0, none⟩) len C.c) := f1
      have d2 : (V104.drew).cell? ⟨C.pb, 2, none⟩ = some (.int .i64 p) := f2
      have d3 : (V104.drew).cell? ⟨g1, p * 3 + 1, none⟩ = some (.string ⟨tx.toArray⟩) := f3
      have da1 : ∀ o, (V104.alloc o).drew.cell? ⟨C.pb, 1, none⟩ = some (.slice (some ⟨g1, 0, none⟩) len C.c) := fa1
      have da2 : ∀ o, (V104.alloc o).drew.cell? ⟨C.pb, 2, none⟩ = some (.int .i64 p) := fa2
      have da3 : ∀ o, (V104.alloc o).drew.cell? ⟨g1, p * 3 + 1, none⟩ = some (.string ⟨tx.toArray⟩) := fa3
      clear ht hx hlen
      go_region_held3 (fun w' => w'.cell? ⟨C.pb, 1, none⟩ = some (.slice (some ⟨g1, 0, none⟩) len C.c) ∧ w'.cell? ⟨C.pb, 2, none⟩ = some (.int .i64 p) ∧ w'.cell? ⟨g1, p * 3 + 1, none⟩ = some (.string ⟨tx.toArray⟩)) (first | with_reducible exact ⟨f1, f2, f3⟩ | with_reducible exact ⟨d1, d2, d3⟩ | with_reducible exact ⟨da1 _, da2 _, da3 _⟩ | with_reducible exact ⟨fa1 _, fa2 _, fa3 _⟩ | with_reducible exact ⟨fb1 _, fb2 _, fb3 _⟩ | with_reducible exact ⟨cell_set4 f1 hn1, cell_set4 f2 hn1, cell_set4 f3 hn2⟩) (first | (go_at_call 81; (with_reducible refine cA.mono ?_); rintro e w6 ⟨rfl, ⟨f1, f2, f3⟩, ⟨g0, g1c, g2c, g3c, gf⟩, hN6, hO6⟩) | (go_at_call 81; (with_reducible refine cB.mono ?_); rintro e w6 ⟨rfl, ⟨f1, f2, f3⟩, hN6, hO6⟩; have fb1 := fun o => al_cell f1 o; have fb2 := fun o => al_cell f2 o; have fb3 := fun o => al_cell f3 o))
      all_goals go_wp2_with fail
      all_goals go_meet
      all_goals (first | exact ⟨_, rfl, hN6.alloc _ _ _ _⟩ | exact ⟨_, rfl, NSt.set4 (pre := []) hN6⟩)
    case rest =>
      obtain ⟨a, rfl, hN⟩ := hcut
      have HNc := hj hN
      clear hN
      clear HN105
      have HT1 : Hid (R = (Tot (unaryL C.ts C.s.size ex f gf) false (p + 1)).bind fun x q => .ok (.mk 12 tx [x] (pl : Int)) q) := by
        show R = _
        rw [HT.out, tot_go, unaryL, if_pos HS.out, HTX.out, HPL.out]
        rfl
      clear HT
      obtain ⟨x2191, x2192, x2193, x2194⟩ : wc.cell? ⟨C.pb, 2, none⟩ = some (.int .i64 p) ∧ wc.frozen? ⟨C.pb, 2, none⟩ = false ∧ p < C.ts.length ∧ C.ts.length ≤ 4096 := ⟨HNc.out.st.cellsF.2.2.1, HNc.out.st.cellsF.2.2.2.2.1, HPN.out, HNc.out.st.len⟩
      have x2195 : IntKind.i64.wrap ((p : Int) + 1) = (p : Int) + 1 := IntWalk.i64_in _ (by omega)
      have x2196 := hj x2193
      clear x2193 x2194
      go_upto_region 6 with (fail)
      clear x2191 x2192 x2195
      have HN220 : Hid (NSt C w (World.setCell wc ⟨C.pb, 2, none⟩ (.int .i64 ((p : Int) + 1))) false (p + 1) [(a, .int .i64 12, .string ⟨tx.toArray⟩, .slice none 0 0, .int .i64 pl), zB w.heap.size]) := hj (HNc.out.step (q := p + 1) x2196.out)
      clear HNc
      generalize World.setCell wc ⟨C.pb, 2, none⟩ (.int .i64 ((p : Int) + 1)) = W221 at HN220 ⊢
      have c222 := HIH.out gf rfl _ _ _ HN220.out.st (fun e => HNE.out (by rw [HT1.out, e]; rfl))
      unfold RFinN at c222
      go_wp2_with fail
      (with_reducible refine c222.mono ?_)
      clear c222
      rintro e V235 ⟨b223, q224, k229, n230, l231, pp232, y233, cp234, hM225, rfl, hk228, hs226, ho227⟩
      have HN236 : Hid (NSt C w V235 b223 q224 [(a, .int .i64 12, .string ⟨tx.toArray⟩, .slice none 0 0, .int .i64 pl), zB w.heap.size]) := hj (HN220.out.call hs226 ho227)
      have HK237 : Hid (Rw w.heap.size V235 [a, w.heap.size] l231 y233) := hj (HN220.out.row HN220.out.ow.size hk228)
      clear HN220 ho227 hs226 hk228
      have HM : Hid (Mt R b223 q224 (.mk 12 tx [(.mk k229 n230 l231 pp232)] (pl : Int))) := by
        show Mt _ _ _ _
        rw [HT1.out, hM225.bind]
        exact Mt.ret _ _ _
      clear hM225 HT1
      go_upto_region 7 with (fail)
      have HN238 : Hid (NSt C w (World.alloc V235 (.cells #[.int .i64 k229, .string ⟨n230.toArray⟩, .slice y233 l231.length cp234, .int .i64 pp232] 53)) b223 q224 [nB V235.heap.size k229 n230 y233 l231 cp234 pp232, (a, .int .i64 12, .string ⟨tx.toArray⟩, .slice none 0 0, .int .i64 pl), zB w.heap.size]) := hj (HN236.out.alloc _ _ _ _)
      have HK240 : Hid (Rw w.heap.size (World.alloc V235 (.cells #[.int .i64 k229, .string ⟨n230.toArray⟩, .slice y233 l231.length cp234, .int .i64 pp232] 53)) [V235.heap.size, a, w.heap.size] l231 y233) := hj (HK237.out.alloc _)
      clear HN236 HK237
      generalize World.alloc V235 (.cells #[.int .i64 k229, .string ⟨n230.toArray⟩, .slice y233 l231.length cp234, .int .i64 pp232] 53) = W239 at HN238 HK240 ⊢
      obtain ⟨u00, u01, u02, u03, u0f⟩ : BoxF W239 (V235.heap.size) (.int .i64 k229) (.string ⟨n230.toArray⟩) (.slice y233 l231.length cp234) (.int .i64 pp232) := HN238.out.at_ (List.Mem.head _)
      obtain ⟨n0, n1, n2, n3, nf⟩ : BoxF W239 a (.int .i64 12) (.string ⟨tx.toArray⟩) (.slice none 0 0) (.int .i64 pl) := HN238.out.at_ (List.Mem.tail _ (List.Mem.head _))
      have na0 := fun o => al_cell n0 o
      have na1 := fun o => al_cell n1 o
      have na2 := fun o => al_cell n2 o
      have na3 := fun o => al_cell n3 o
      have naf : ∀ ob o, (World.alloc W239 ob).frozen? ⟨a, o, none⟩ = false := fun ob o => ((HN238.out.bx _ (List.Mem.tail _ (List.Mem.head _))).2.alloc ob).facts.2.2.2.2 o
      go_upto_region 8 with (fail)
      clear n0 n1 n2 n3 nf u00 u01 u02 u03 u0f
      clear na0 na1 na2 na3 naf
      have HK241 : Hid (Rw w.heap.size (World.alloc W239 (.cells #[.int .i64 k229, .string ⟨n230.toArray⟩, .slice y233 l231.length cp234, .int .i64 pp232] 53)) [V235.heap.size, a, w.heap.size] [(.mk k229 n230 l231 pp232)] (some ⟨W239.heap.size, 0, none⟩)) := hj (Rw.one HN238.out HN238.out.ow.size HK240.out)
      have HN242 : Hid (NSt C w (World.alloc W239 (.cells #[.int .i64 k229, .string ⟨n230.toArray⟩, .slice y233 l231.length cp234, .int .i64 pp232] 53)) b223 q224 [nB V235.heap.size k229 n230 y233 l231 cp234 pp232, (a, .int .i64 12, .string ⟨tx.toArray⟩, .slice none 0 0, .int .i64 pl), zB w.heap.size]) := hj (HN238.out.blk _)
      clear HN238 HK240
      have HN243 : Hid (NSt C w (World.setCell (World.alloc W239 (.cells #[.int .i64 k229, .string ⟨n230.toArray⟩, .slice y233 l231.length cp234, .int .i64 pp232] 53)) ⟨a, 2, none⟩ (.slice (some ⟨W239.heap.size, 0, none⟩) 1 1)) b223 q224 [nB V235.heap.size k229 n230 y233 l231 cp234 pp232, (a, .int .i64 12, .string ⟨tx.toArray⟩, .slice (some ⟨W239.heap.size, 0, none⟩) 1 1, .int .i64 pl), zB w.heap.size]) := hj (NSt.set2 (pre := [nB V235.heap.size k229 n230 y233 l231 cp234 pp232]) HN242.out)
      have HK245 : Hid (Rw w.heap.size (World.setCell (World.alloc W239 (.cells #[.int .i64 k229, .string ⟨n230.toArray⟩, .slice y233 l231.length cp234, .int .i64 pp232] 53)) ⟨a, 2, none⟩ (.slice (some ⟨W239.heap.size, 0, none⟩) 1 1)) [V235.heap.size, a, w.heap.size] [(.mk k229 n230 l231 pp232)] (some ⟨W239.heap.size, 0, none⟩)) := hj (HK241.out.set (List.Mem.tail _ (List.Mem.head _)))
      clear HN242 HK241
      generalize World.setCell (World.alloc W239 (.cells #[.int .i64 k229, .string ⟨n230.toArray⟩, .slice y233 l231.length cp234, .int .i64 pp232] 53)) ⟨a, 2, none⟩ (.slice (some ⟨W239.heap.size, 0, none⟩) 1 1) = W244 at HN243 HK245 ⊢
      obtain ⟨n0, n1, n2, n3, nf⟩ : BoxF W244 a (.int .i64 12) (.string ⟨tx.toArray⟩) (.slice (some ⟨W239.heap.size, 0, none⟩) 1 1) (.int .i64 pl) := HN243.out.at_ (List.Mem.tail _ (List.Mem.head _))
      obtain ⟨r0, r1, r2, r3, rf⟩ : BoxF W244 (w.heap.size) (.int .i64 0) (.string ⟨#[]⟩) (.slice none 0 0) (.int .i64 0) := HN243.out.at_ (List.Mem.tail _ (List.Mem.tail _ (List.Mem.head _)))
      have HN246 : Hid (NSt C w (S4 W244 w.heap.size (.int .i64 12) (.string ⟨tx.toArray⟩) (.slice (some ⟨W239.heap.size, 0, none⟩) 1 1) (.int .i64 pl)) b223 q224 [nB V235.heap.size k229 n230 y233 l231 cp234 pp232, (a, .int .i64 12, .string ⟨tx.toArray⟩, .slice (some ⟨W239.heap.size, 0, none⟩) 1 1, .int .i64 pl), (w.heap.size, .int .i64 12, .string ⟨tx.toArray⟩, .slice (some ⟨W239.heap.size, 0, none⟩) 1 1, .int .i64 pl)]) := hj (NSt.set4 (pre := [nB V235.heap.size k229 n230 y233 l231 cp234 pp232, (a, .int .i64 12, .string ⟨tx.toArray⟩, .slice (some ⟨W239.heap.size, 0, none⟩) 1 1, .int .i64 pl)]) HN243.out)
      have HK247 : Hid (Rw w.heap.size (S4 W244 w.heap.size (.int .i64 12) (.string ⟨tx.toArray⟩) (.slice (some ⟨W239.heap.size, 0, none⟩) 1 1) (.int .i64 pl)) [V235.heap.size, a, w.heap.size] [(.mk k229 n230 l231 pp232)] (some ⟨W239.heap.size, 0, none⟩)) := hj (HK245.out.set4 (List.Mem.tail _ (List.Mem.tail _ (List.Mem.head _))))
      have HW : Hid (w.heap.size ≤ w.heap.size) := hj (Nat.le_refl _)
      have HF : Hid (RFinN C w (unaryL C.ts C.s.size ex f (gf + 1)) false p (.returned (.agg #[.int .i64 12, .string ⟨tx.toArray⟩, .slice (some ⟨W239.heap.size, 0, none⟩) 1 1, .int .i64 pl])) (S4 W244 w.heap.size (.int .i64 12) (.string ⟨tx.toArray⟩) (.slice (some ⟨W239.heap.size, 0, none⟩) 1 1) (.int .i64 pl))) := hj (NSt.fin (n := tx) (l := [(.mk k229 n230 l231 pp232)]) HN246.out HW.out (by rw [HR.out]; exact HM.out) HK247.out)
      clear HN243 HN246 HW HM HK247 HK245
      go_wp2_with fail
      exact ret_node rfl rfl rfl (by simp [go_sem, r0]) (by simp [go_sem, r1]) (by simp [go_sem, r2]) (by simp [go_sem, r3]) HF.out
end Go.Proofs.YtpbkeamjdolpgaaGreatDoor
