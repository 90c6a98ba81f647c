/- The walk of a level of signs of two. The iterator that slices.Backward hands back, over the five levels. The walk of the parser's expressions. -/
import Derived.Test.YtpbkeamjdolpgaaGreatDoorZb01
import Derived.Deep.RegionWith
import Derived.Deep.CutRange
import Derived.Deep.RegionHeld3
import Derived.RegionDies
import Derived.RangeFuncNested
import Derived.RangeFuncBound
import Derived.RangeFuncCalls
import Derived.RangeFuncLeaves
import Derived.Shelf.Abstract
import Derived.OwnWalkIn
import Derived.TacticsInMore
import Derived.LoopNIn
import Derived.LoopIn
import Derived.Laws.EntriesVeiled
import Derived.Test.YtpbkeamjdolpgaaGreatDoorZb02
namespace Go.Proofs.YtpbkeamjdolpgaaGreatDoor
open Go.RowKit Go.Lib Go.Shelf

theorem levelM_step {C : Ctx} {tight : Nat → Res Nd} {k g q : Nat} {x : Nd} (hB : anyT C.ts q (signsK k) = true) : levelM C.ts C.s.size tight k (g + 1) x q = (tight (q + 1)).bind fun y r =>
      (if k = 2 then .ok (.mk 12 (textT C.ts q) [x, y] (placeT C.ts C.s.size q)) r else levelM C.ts C.s.size tight k g (.mk 12 (textT C.ts q) [x, y] (placeT C.ts C.s.size q)) r) := by
  rw [levelM, hB]
  rfl
theorem levelM_end {C : Ctx} {tight : Nat → Res Nd} {k g q : Nat} {x : Nd} (hB : anyT C.ts q (signsK k) = false) : levelM C.ts C.s.size tight k (g + 1) x q = .ok x q := by
  rw [levelM, hB]
  rfl
structure Cap (C : Ctx) (bt bl bp bk : Nat) (F : Nat) (first cap : Array Value) (g c k : Nat) (w : World) : Prop where
  t : w.cell? ⟨bt, 0, none⟩ = some (.func (.func F) first cap)
  l : w.cell? ⟨bl, 0, none⟩ = some (.slice (some ⟨g, 0, none⟩) (signsK k).length c)
  p : w.cell? ⟨bp, 0, none⟩ = some (.pointer (some ⟨C.pb, 0, none⟩))
  ki : w.cell? ⟨bk, 0, none⟩ = some (.int .i64 k)
  row : StrRow w g 0 (signsK k)
  ne : bt ≠ C.pb ∧ bl ≠ C.pb ∧ bp ≠ C.pb ∧ bk ≠ C.pb ∧ g ≠ C.pb
theorem StrRow.ow {w w' : World} {b g o : Nat} {l : List (List UInt8)} (h : StrRow w g o l) (ho : Ow b w w') (hn : g ≠ b) : StrRow w' g o l := fun j u hj => ho.cell (p := ⟨g, o + j, none⟩) hn (h j u hj)
theorem Cap.ow {C : Ctx} {bt bl bp bk F : Nat} {first cap : Array Value} {g c k : Nat} {w w' : World} (h : Cap C bt bl bp bk F first cap g c k w) (ho : Ow C.pb w w') : Cap C bt bl bp bk F first cap g c k w' :=
  ⟨ho.cell (p := ⟨bt, 0, none⟩) h.ne.1 h.t, ho.cell (p := ⟨bl, 0, none⟩) h.ne.2.1 h.l, ho.cell (p := ⟨bp, 0, none⟩) h.ne.2.2.1 h.p, ho.cell (p := ⟨bk, 0, none⟩) h.ne.2.2.2.1 h.ki, h.row.ow ho h.ne.2.2.2.2, h.ne⟩
def CapF (C : Ctx) (bt bl bp bk : Nat) (F : Nat) (first cap : Array Value) (g n c k : Nat) (w : World) : Prop :=
  w.cell? ⟨bt, 0, none⟩ = some (.func (.func F) first cap) ∧ w.cell? ⟨bl, 0, none⟩ = some (.slice (some ⟨g, 0, none⟩) n c) ∧ w.cell? ⟨bp, 0, none⟩ = some (.pointer (some ⟨C.pb, 0, none⟩)) ∧ w.cell? ⟨bk, 0, none⟩ = some (.int .i64 k)
theorem Cap.f {C : Ctx} {bt bl bp bk F : Nat} {first cap : Array Value} {g c k n : Nat} {w w' : World} (h : Cap C bt bl bp bk F first cap g c k w) (ho : Ow C.pb w w') (hn : (signsK k).length = n) : CapF C bt bl bp bk F first cap g n c k w' := by
  have h' := h.ow ho
  exact ⟨h'.t, by rw [← hn]; exact h'.l, h'.p, h'.ki⟩
theorem signsK_len (k : Nat) : (signsK k).length ≤ 6 := by
  unfold signsK
  split
  · decide
  · split
    · decide
    · split
      · decide
      · split <;> decide

theorem bp_set4 {w : World} {b bp : Nat} {v v0 v1 v2 v3 : Value} (h : w.cell? ⟨bp, 0, none⟩ = some v) (hn : bp ≠ b) : ((((w.setCell ⟨b, 0, none⟩ v0).setCell ⟨b, 1, none⟩ v1).setCell ⟨b, 2, none⟩ v2).setCell ⟨b, 3, none⟩ v3).cell? ⟨bp, 0, none⟩ = some v := by
  rw [World.cell?_of_block (Below.heap_setCell _ _ _ _ hn), World.cell?_of_block (Below.heap_setCell _ _ _ _ hn), World.cell?_of_block (Below.heap_setCell _ _ _ _ hn), World.cell?_of_block (Below.heap_setCell _ _ _ _ hn)]
  exact h
def SS (C : Ctx) (w4 : World) (q : Nat) (w' : World) : Prop := PSt C w' q ∧ Ow C.pb w4 w'
theorem SS.alloc {C : Ctx} {w4 w' : World} {q : Nat} (h : SS C w4 q w') (o : Obj) : SS C w4 q (w'.alloc o) := ⟨h.1.below ((Below.refl _ _).alloc (Nat.le_refl _) _), h.2.alloc _⟩
def TokP (C : Ctx) (w4 : World) (q bp : Nat) (kd : Int) (tx : List UInt8) (pl : Nat) (e : Ending) (w' : World) : Prop :=
  e = .returned (.agg #[.int .i64 kd, .string ⟨tx.toArray⟩, .int .i64 pl]) ∧ w'.cell? ⟨bp, 0, none⟩ = some (.pointer (some ⟨C.pb, 0, none⟩)) ∧ (∀ o, (w'.alloc o).cell? ⟨bp, 0, none⟩ = some (.pointer (some ⟨C.pb, 0, none⟩))) ∧ SS C w4 q w'
theorem tok_0 (C : Ctx) (w4 : World) (q bp : Nat) (hbp : bp ≠ C.pb) (kd : Int) (tx : List UInt8) (pl : Nat) (hkd : kindT C.ts q = kd) (htx : textT C.ts q = tx) (hpl : placeT C.ts C.s.size q = pl) (W : World) (h : SS C w4 q W) (hc : W.cell? ⟨bp, 0, none⟩ = some (.pointer (some ⟨C.pb, 0, none⟩))) :
    Calls Tryz.prog 102 #[.pointer (some ⟨C.pb, 0, none⟩)] W fun e w' => TokP C w4 q bp kd tx pl e w' ∧ Ow C.pb W w' := by
  refine (token_x C q W h.1 _ (fun _ _ => trivial)).mono ?_
  rintro e w' ⟨rfl, h1, h2, _⟩
  have hc' := h2.cell (p := ⟨bp, 0, none⟩) hbp hc
  exact ⟨⟨by rw [hkd, htx, hpl], hc', fun o => al_cell hc' o, h1, h.2.trans h2⟩, h2⟩
theorem tok_2 (C : Ctx) (w4 : World) (q bp : Nat) (hbp : bp ≠ C.pb) (kd : Int) (tx : List UInt8) (pl : Nat) (hkd : kindT C.ts q = kd) (htx : textT C.ts q = tx) (hpl : placeT C.ts C.s.size q = pl) (W : World) (b : Nat) (v0 v1 v2 v3 : Value) (h : SS C w4 q W) (hc : W.cell? ⟨bp, 0, none⟩ = some (.pointer (some ⟨C.pb, 0, none⟩))) (hb : Box4 W b v0 v1 v2 v3) (hn : w4.heap.size ≤ b) (hp : C.pb < w4.heap.size) :
    Calls Tryz.prog 102 #[.pointer (some ⟨C.pb, 0, none⟩)] W fun e w' => TokP C w4 q bp kd tx pl e w' ∧ BoxF w' b v0 v1 v2 v3 ∧ Box4 w' b v0 v1 v2 v3 ∧ w4.heap.size ≤ b :=
  (tok_0 C w4 q bp hbp kd tx pl hkd htx hpl W h hc).mono fun _ _ ⟨h1, h2⟩ => ⟨h1, (hb.ow h2 (by omega)).facts, hb.ow h2 (by omega), hn⟩
def Made (C : Ctx) (_w w4 : World) (q : Nat) (tx : List UInt8) (pl : Nat) (s6 : Value) (wx : World) : Prop :=
  ∃ b, s6 = .pointer (some ⟨b, 0, none⟩) ∧ w4.heap.size ≤ b ∧ Box4 wx b (.int .i64 12) (.string ⟨tx.toArray⟩) (.slice none 0 0) (.int .i64 pl) ∧ Ow C.pb w4 wx ∧ PSt C wx q
theorem Made.new {C : Ctx} {w w4 w6 : World} {q : Nat} {tx : List UInt8} {pl : Nat} (hh : SS C w4 q w6) : Made C w w4 q tx pl (.pointer (some ⟨w6.heap.size, 0, none⟩)) (w6.alloc (.cells #[.int .i64 12, .string ⟨tx.toArray⟩, .slice none 0 0, .int .i64 pl] 53)) :=
  ⟨_, rfl, hh.2.size, Box4.new _ _ _ _ _, hh.2.alloc _, hh.1.below ((Below.refl _ _).alloc (Nat.le_refl _) _)⟩
theorem Made.set {C : Ctx} {w w4 w6 : World} {p q : Nat} {tx : List UInt8} {pl b : Nat} {v0 v1 v2 v3 : Value} (h0 : PSt C w p) (hw : w.heap.size ≤ w4.heap.size) (hh : SS C w4 q w6) (hb : Box4 w6 b v0 v1 v2 v3) (hle : w4.heap.size ≤ b) :
    Made C w w4 q tx pl (.pointer (some ⟨b, 0, none⟩)) ((((w6.setCell ⟨b, 0, none⟩ (.int .i64 12)).setCell ⟨b, 1, none⟩ (.string ⟨tx.toArray⟩)).setCell ⟨b, 2, none⟩ (.slice none 0 0)).setCell ⟨b, 3, none⟩ (.int .i64 pl)) :=
  ⟨_, rfl, hle, hb.set4, hh.2.set4 hle, h0.keep hh.1 ((Kp.refl _ _).set4 (Nat.le_trans hw hle))⟩

set_option maxHeartbeats 20000000 in
set_option maxRecDepth 100000 in
theorem level_any (C : Ctx) (bt bl bp bk F : Nat) (first cap : Array Value) (g c k : Nat) (hk4 : k ≤ 4) (It : World → Prop) (hIt : ∀ w w', It w → Ow C.pb w w' → It w') (eg : ∀ args w, (callFunc F args).run Tryz.prog w = .ok (.enter F args) w)
    (tight : Nat → Res Nd) (ht : OneC C F (first ++ cap) It tight) (f : Nat) (_hf : f ≤ 8192) :
    OneC C 166 #[.pointer (some ⟨bt, 0, none⟩), .pointer (some ⟨bl, 0, none⟩), .pointer (some ⟨bp, 0, none⟩), .pointer (some ⟨bk, 0, none⟩)] (fun w => It w ∧ Cap C bt bl bp bk F first cap g c k w) (levelO C.ts C.s.size tight k f) := by
  intro w p h hi hne
  obtain ⟨hit, hcap⟩ := hi
  have hmf : ∀ (fn : Fn) (first cap : Array Value) (w : World), (Instr.makeFunc fn first cap).run Tryz.prog w = .ok (.func fn first cap) w := fun _ _ _ _ => rfl
  have F1 := fld1
  have F2 := fld2
  have hpb := h.lt
  obtain ⟨n6, hn6⟩ : ∃ n6, (signsK k).length = n6 := ⟨_, rfl⟩
  have hn6' : n6 ≤ 6 := by rw [← hn6]; exact signsK_len k
  have HN6 := Lib.hid hn6
  have hsz0 := World.size_alloc w zNode
  have hAo : Ow C.pb w (w.alloc zNode) := (Ow.refl _ _).alloc _
  have hsA : PSt C (w.alloc zNode) p := h.below ((Below.refl _ _).alloc (Nat.le_refl _) _)
  have hne0 : w.heap.size ≠ C.pb := by omega
  have H0 := Lib.hid h
  have HA : Hid (Ow C.pb w (w.alloc zNode)) := Lib.hid hAo
  obtain ⟨R, hR⟩ : ∃ R, levelO C.ts C.s.size tight k f p = R := ⟨_, rfl⟩
  have E : Hid (R = (tight p).bind fun x q => levelM C.ts C.s.size tight k f x q) := hR.symm
  rw [hR] at hne ⊢
  have hZ : Box4 (w.alloc zNode) w.heap.size (.int .i64 0) (.string ⟨#[]⟩) (.slice none 0 0) (.int .i64 0) := Box4.new w _ _ _ _
  have hx0 : tight p ≠ .out := fun e => hne (by rw [E.out, e]; rfl)
  have HC := Lib.hid hcap
  obtain ⟨k0, k1, k2, k3⟩ := hcap.f hAo hn6
  simp only [zNode] at k0 k1 k2 k3
  have c0 := node_x (ht (w.alloc zNode) p hsA (hIt _ _ hit hAo) hx0) _ (fun w1 ho => And.intro (hZ.x ho hne0) (hcap.f (hAo.trans ho) hn6))
  have HNE := Lib.hid hne
  have HT := Lib.hid ht
  have HIT := Lib.hid hit
  clear hR hne h hsA hZ hx0 hcap hit hAo ht hn6
  go_enter Tryz.func166, Tryz.ntmps166
  go_wp2_with fail
  refine c0.mono ?_
  clear c0 k0 k1 k2 k3
  rintro e w3 (⟨k', n, kids, pp, y, c', q, hr3, rfl, hk3, hs3, ho3, ⟨⟨z0, z1, z2, z3, zf⟩, HZ⟩, k0, k1, k2, k3⟩ | ⟨q, hr3, b, hd1, rfl, hd3, hd4⟩)
  · have HL := E.out
    rw [hr3] at HL
    have HS : Hid (levelM C.ts C.s.size tight k f (.mk k' n kids pp) q = R) := HL.symm
    have hlt3 : w.heap.size < w3.heap.size := HZ.out.lt
    have hne3 : w3.heap.size ≠ C.pb := by omega
    have AA := ho3.size
    rw [hsz0] at AA
    have HK3 : Hid (NdRow (w3.alloc (.cells #[.int .i64 k', .string ⟨n.toArray⟩, .slice y kids.length c', .int .i64 pp] 53)) (fun b => w.heap.size < b ∧ b ≠ w3.heap.size) kids y) := NdRow.mono (fun b h1 h2 => by rw [hsz0] at h1; omega) (fun b _ h2 => Below.heap_alloc _ _ b h2) _ _ hk3
    have HS3 : Hid (PSt C (w3.alloc (.cells #[.int .i64 k', .string ⟨n.toArray⟩, .slice y kids.length c', .int .i64 pp] 53)) q) := hs3.below ((Below.refl _ _).alloc (Nat.le_refl _) _)
    have HO3 : Hid (Ow C.pb w (w3.alloc (.cells #[.int .i64 k', .string ⟨n.toArray⟩, .slice y kids.length c', .int .i64 pp] 53))) := (HA.out.trans ho3).alloc _
    have HZ3 : Hid (Box4 (w3.alloc (.cells #[.int .i64 k', .string ⟨n.toArray⟩, .slice y kids.length c', .int .i64 pp] 53)) w.heap.size (.int .i64 0) (.string ⟨#[]⟩) (.slice none 0 0) (.int .i64 0)) := HZ.out.alloc _
    have HX3 : Hid (Box4 (w3.alloc (.cells #[.int .i64 k', .string ⟨n.toArray⟩, .slice y kids.length c', .int .i64 pp] 53)) w3.heap.size (.int .i64 k') (.string ⟨n.toArray⟩) (.slice y kids.length c') (.int .i64 pp)) := Box4.new _ _ _ _ _
    clear hr3 hk3 hs3 ho3 z0 z1 z2 z3 zf HZ HL k0 k1 k2 k3
    go_wp2_with fail
    go_loopg [] f (fun gg wx => ∃ k' n, ∃ kids : List Nd, ∃ pp y, ∃ c' : Cp kids.length, ∃ q, Box4 wx w.heap.size (.int .i64 0) (.string ⟨#[]⟩) (.slice none 0 0) (.int .i64 0) ∧ Box4 wx w3.heap.size (.int .i64 k') (.string ⟨n.toArray⟩) (.slice y (List.length kids) c') (.int .i64 pp) ∧ NdRow wx (fun b => w.heap.size < b ∧ b ≠ w3.heap.size) kids y ∧ PSt C wx q ∧ Ow C.pb w wx ∧ Hid (levelM C.ts C.s.size tight k gg (.mk k' n kids pp) q = R))
    case atStart => exact ⟨k', n, kids, pp, y, c', q, HZ3.out, HX3.out, HK3.out, HS3.out, HO3.out, HS⟩
    case round =>
      clear HZ3 HX3 HK3 HS3 HO3 HS
      obtain ⟨k', n, kids, pp, y, c', q, hZ, hX, hK, hs, ho, hS⟩ := hrel
      obtain ⟨g', rfl⟩ : ∃ g', gk = g' + 1 := by
        cases gk with
        | zero => exact absurd hS.out.symm HNE.out
        | succ g' => exact ⟨g', rfl⟩
      have hltr := hX.lt
      obtain ⟨k0, k1, k2, k3⟩ := HC.out.f ho HN6.out
      have c1 := containsf_any C q (signsK k) n6 HN6.out (by omega) g 0 c wr hs (HC.out.ow ho).row
      obtain ⟨z0, z1, z2, z3, zf⟩ := hZ.facts
      obtain ⟨x0, x1, x2, x3, xf⟩ := hX.facts
      cases hB : anyT C.ts q (signsK k)
      · rw [hB] at c1
        have HL := hS.out
        rw [levelM_end hB] at HL
        have HE2 := Lib.hid HL
        have HX' : ∀ w4, Below wr.heap.size wr w4 → BoxX w4 w.heap.size (.int .i64 0) (.string ⟨#[]⟩) (.slice none 0 0) (.int .i64 0) ∧ BoxX w4 w3.heap.size (.int .i64 k') (.string ⟨n.toArray⟩) (.slice y (List.length kids) c') (.int .i64 pp) ∧ Hid (NdRow w4 (fun b => w.heap.size < b ∧ b ≠ w3.heap.size) kids y) ∧ Hid (PSt C w4 q) ∧ Hid (Ow C.pb w w4) := fun w4 hb =>
          ⟨hZ.x (Ow.of_below (b := C.pb) hb) hne0, hX.x (Ow.of_below (b := C.pb) hb) hne3, hK.below hb, hs.below hb, ho.below hb⟩
        clear hZ hX hK hs ho hS hB HL z0 z1 z2 z3 zf x0 x1 x2 x3 xf
        go_wp2_with fail
        refine c1.mono ?_
        clear c1
        rintro e w4 ⟨rfl, hb4⟩
        obtain ⟨⟨⟨z0, z1, z2, z3, zf⟩, HZ⟩, ⟨⟨x0, x1, x2, x3, xf⟩, HX⟩, HK4, HS4, HO4⟩ := HX' w4 hb4
        go_wp2_with fail
        refine ret_node rfl rfl rfl (by simp [go_sem, z0]) (by simp [go_sem, z1]) (by simp [go_sem, z2]) (by simp [go_sem, z3]) (.inl ⟨k', n, kids, pp, y, c', q, HE2.out.symm, rfl, (HK4.out.set4 (fun b hb => by omega)).wide (fun b hb _ => by omega), H0.out.keep HS4.out ((Kp.refl _ _).set4 (Nat.le_refl _)), HO4.out.set4 (Nat.le_refl _)⟩)
      · rw [hB] at c1
        have hqn := anyT_lt hB
        have HQN := Lib.hid hqn
        have hle := hs.len
        have X1 : IntKind.i64.wrap ((q : Int) + 1) = (q : Int) + 1 := IntWalk.i64_in _ (by omega)
        obtain ⟨pl, hpl⟩ : ∃ pl, placeT C.ts C.s.size q = pl := ⟨_, rfl⟩
        obtain ⟨tx, htx⟩ : ∃ tx, textT C.ts q = tx := ⟨_, rfl⟩
        obtain ⟨kd, hkd⟩ : ∃ kd, kindT C.ts q = kd := ⟨_, rfl⟩
        have HL := hS.out
        rw [levelM_step hB, hpl, htx] at HL
        have HS2 := Lib.hid HL
        have HX' : ∀ w4, Ow C.pb wr w4 → BoxX w4 w.heap.size (.int .i64 0) (.string ⟨#[]⟩) (.slice none 0 0) (.int .i64 0) ∧ BoxX w4 w3.heap.size (.int .i64 k') (.string ⟨n.toArray⟩) (.slice y (List.length kids) c') (.int .i64 pp) ∧ CapF C bt bl bp bk F first cap g n6 c k w4 ∧ Hid (NdRow w4 (fun b => (w.heap.size < b ∧ b ≠ w3.heap.size) ∧ b < wr.heap.size) kids y) := fun w4 hb =>
          ⟨hZ.x hb hne0, hX.x hb hne3, HC.out.f (ho.trans hb) HN6.out, (hK.wide (fun b h1 h2 => ⟨h1, h2⟩)).ow hb (fun b hb => by omega)⟩
        have HO := Lib.hid ho
        have c2 : ∀ w4, Below wr.heap.size wr w4 → PSt C w4 q := fun w4 hb => hs.below hb
        clear hZ hX hK hs ho hS hB HL z0 z1 z2 z3 zf x0 x1 x2 x3 xf hqn hle
        go_wp2_with fail
        refine c1.mono ?_
        clear c1 k0 k1 k2 k3
        rintro e w4 ⟨rfl, hb4⟩
        have hs4 := c2 w4 hb4
        have hO4 := Ow.of_below (b := C.pb) hb4
        obtain ⟨⟨⟨z0, z1, z2, z3, zf⟩, HZ⟩, ⟨⟨x0, x1, x2, x3, xf⟩, HX⟩, ⟨k0, k1, k2, k3⟩, HK4⟩ := HX' w4 hO4
        have HO4 := Lib.hid hO4
        have m2 := fun o => al_cell k2 o
        have hw4 : w.heap.size ≤ w4.heap.size := by have := HZ.out.lt; omega
        have HS4 := Lib.hid hs4
        clear c2 hb4
        have hpb4 : C.pb < w4.heap.size := hs4.lt
        have hS4 : SS C w4 q w4.drew := ⟨hs4.below (Below.refl _ _).drew, (Ow.refl _ _).drew⟩
        have c0 := tok_0 C w4 q bp HC.out.ne.2.2.1 kd tx pl hkd htx hpl
        have cN : ∀ w5, SS C w4 q w5 → w5.cell? ⟨bp, 0, none⟩ = some (.pointer (some ⟨C.pb, 0, none⟩)) → _ := fun w5 h1 h2 => tok_2 C w4 q bp HC.out.ne.2.2.1 kd tx pl hkd htx hpl (w5.alloc (.cells #[.int .i64 0, .string ⟨#[]⟩, .slice none 0 0, .int .i64 0] 53)) w5.heap.size _ _ _ _ (h1.alloc _) (al_cell h2 _) (Box4.new w5 _ _ _ _) h1.2.size hpb4
        have cD := tok_2 C w4 q bp HC.out.ne.2.2.1 kd tx pl hkd htx hpl (w4.alloc (.cells #[.int .i64 0, .string ⟨#[]⟩, .slice none 0 0, .int .i64 0] 53)).drew w4.heap.size _ _ _ _ (hS4.alloc _) (m2 _) (Box4.new w4 _ _ _ _) (Nat.le_refl _) hpb4
        have c0d := c0 w4.drew hS4 k2
        have k2d : w4.drew.cell? ⟨bp, 0, none⟩ = some (.pointer (some ⟨C.pb, 0, none⟩)) := k2
        have m2d : ∀ o, (w4.alloc o).drew.cell? ⟨bp, 0, none⟩ = some (.pointer (some ⟨C.pb, 0, none⟩)) := m2
        have hbl : bp < w4.heap.size := World.block_lt_of_cell? w4 _ k2
        have c2 := tok_2 C w4 q bp HC.out.ne.2.2.1 kd tx pl hkd htx hpl
        clear hpl htx hkd hs4 hO4
        go_wp2_with fail
        go_upto_region 3 with fail
        go_cut [6] from 9 to 35 (fun s6 wx => Made C w w4 q tx pl s6 wx)
        case first =>
          go_region_held3 (fun w' => w'.cell? ⟨bp, 0, none⟩ = some (.pointer (some ⟨C.pb, 0, none⟩))) (first | with_reducible assumption | with_reducible exact hq6 _ | with_reducible exact m2 _ | with_reducible exact m2d _ | with_reducible exact bp_set4 hp6 (by omega)) (first | (go_at_call 102; (with_reducible refine (cN w6 hS6 hp6).mono ?_); rintro e w6 ⟨⟨rfl, hp6, hq6, hS6⟩, ⟨g0, g1, g2, g3, gf⟩, HB, hle⟩) | (go_at_call 102; (with_reducible refine (c2 w6 _ _ _ _ _ hS6 hp6 HB hle hpb4).mono ?_); rintro e w6 ⟨⟨rfl, hp6, hq6, hS6⟩, ⟨g0, g1, g2, g3, gf⟩, HB, hle⟩) | (go_at_call 102; (with_reducible refine (c0 w6 hS6 hp6).mono ?_); rintro e w6 ⟨⟨rfl, hp6, hq6, hS6⟩, _⟩) | (go_at_call 102; (with_reducible refine cD.mono ?_); rintro e w6 ⟨⟨rfl, hp6, hq6, hS6⟩, ⟨g0, g1, g2, g3, gf⟩, HB, hle⟩) | (go_at_call 102; (with_reducible refine c0d.mono ?_); rintro e w6 ⟨⟨rfl, hp6, hq6, hS6⟩, _⟩))
          all_goals go_wp2_with fail
          all_goals go_meet
          all_goals (first | exact Made.new hS6 | exact Made.set H0.out hw4 hS6 HB hle | trace_state)
        case rest =>
          obtain ⟨b, rfl, hle, hN, ho6, hs6⟩ := hcut
          have HOc := Lib.hid (HO4.out.trans ho6)
          have hr4 := HO4.out.size
          clear c0 cN cD c0d k2d m2d hbl c2 hS4 m2 z0 z1 z2 z3 zf HZ x0 x1 x2 x3 xf HX k0 k1 k2 k3 HK4 HS4 HO4
          obtain ⟨⟨⟨z0, z1, z2, z3, zf⟩, HZ⟩, ⟨⟨x0, x1, x2, x3, xf⟩, HX⟩, ⟨k0, k1, k2, k3⟩, HK⟩ := HX' wc HOc.out
          obtain ⟨_, _, j2, jf⟩ := hs6.cells
          have hneb : b ≠ C.pb := by omega
          have hneb' : C.pb ≠ b := by omega
          have hszr := HO.out.size
          have hrr : wr.heap.size ≤ b := Nat.le_trans hr4 hle
          have hs7 : PSt C (wc.setCell ⟨C.pb, 2, none⟩ (.int .i64 ((q : Int) + 1))).drew (q + 1) := (hs6.step (q := q + 1) HQN.out).below (Below.refl _ _).drew
          have hO7 : Ow C.pb wr (wc.setCell ⟨C.pb, 2, none⟩ (.int .i64 ((q : Int) + 1))).drew := (HOc.out.setCell (a := ⟨C.pb, 2, none⟩) (.inl rfl) _).drew
          have hN7 : Box4 (wc.setCell ⟨C.pb, 2, none⟩ (.int .i64 ((q : Int) + 1))).drew b (.int .i64 12) (.string ⟨tx.toArray⟩) (.slice none 0 0) (.int .i64 pl) := Box4.other (k := C.pb) (o := 2) (v := .int .i64 ((q : Int) + 1)) hN hneb
          have hx0 : tight (q + 1) ≠ .out := fun e => HNE.out (by rw [← HS2.out, e]; rfl)
          have c3 := HT.out _ (q + 1) hs7 (hIt _ _ HIT.out (HO.out.trans hO7)) hx0
          have hX7 := fun w' (ho' : Ow C.pb (wc.setCell ⟨C.pb, 2, none⟩ (.int .i64 ((q : Int) + 1))).drew w') => And.intro (HX' w' (hO7.trans ho')) (hN7.x ho' hneb)
          have HO7 := Lib.hid hO7
          have HLB := Lib.hid hN7.lt
          obtain ⟨n0, n1, n2, n3, nf⟩ := hN.facts
          clear hs6 hs7 hO7 hN7 hN ho6
          cases hres : tight (q + 1) with
          | out => exact absurd hres hx0
          | bad q7 =>
            have c4 := node_bad c3 hres
            have HRES := Lib.hid hres
            clear hX7 c3 hres hx0
            go_wp2_with fail
            go_region_dies
            all_goals (refine c4.mono ?_; rintro e w7 ⟨b', hd1, rfl, hd3, hd4⟩; exact ⟨rfl, .inr ⟨q7, by rw [← HS2.out, HRES.out]; rfl, b', Nat.le_trans (HO.out.trans HO7.out).size hd1, rfl, hd3, (HO.out.trans HO7.out).trans hd4⟩⟩)
          | ok nd q7 =>
            obtain ⟨k9, n', kids', pp'⟩ := nd
            have c4 := node_ok c3 hres _ hX7
            have HRES := Lib.hid hres
            clear hX7 c3 hres hx0
            go_wp2_with fail
            go_region_with (first | (go_at_fn F; (with_reducible refine c4.mono ?_); rintro e w7 ⟨y', c9, rfl, hk7, hs7, ho7, ⟨⟨⟨z0, z1, z2, z3, zf⟩, HZ⟩, ⟨⟨x0, x1, x2, x3, xf⟩, HX⟩, ⟨k0, k1, k2, k3⟩, hkk⟩, ⟨n0, n1, n2, n3, nf⟩, HN⟩; have l2 := fun o => al_cell n2 o; have lf := fun ob o => ((HN.out.alloc ob).facts).2.2.2.2 o))
            all_goals (
              have hsz7 := ho7.size
              have HLb := HLB.out
              have hb7 : b < w7.heap.size := Nat.lt_of_lt_of_le HLB.out ho7.size
              have HO8 := Lib.hid (((HO.out.trans HO7.out).trans ho7).alloc (.cells #[.int .i64 k', .string ⟨n.toArray⟩, .slice y (List.length kids) c', .int .i64 pp, .int .i64 k9, .string ⟨n'.toArray⟩, .slice y' (List.length kids') c9, .int .i64 pp'] 53))
              have hbkw : bk < w.heap.size := World.block_lt_of_cell? w _ HC.out.ki
              have d1 : w.heap.size ≠ b := by omega
              have d2 : w3.heap.size ≠ b := by omega
              have d3 : b ≠ w.heap.size := by omega
              have d4 : b ≠ w3.heap.size := by omega
              have d5 : bk ≠ b := by omega
              have d6 : bk ≠ w3.heap.size := by omega
              have d7 : w.heap.size ≠ w3.heap.size := by omega
              have HRW : Hid (NdRow ((w7.alloc (.cells #[.int .i64 k', .string ⟨n.toArray⟩, .slice y (List.length kids) c', .int .i64 pp, .int .i64 k9, .string ⟨n'.toArray⟩, .slice y' (List.length kids') c9, .int .i64 pp'] 53)).setCell ⟨b, 2, none⟩ (.slice (some ⟨w7.heap.size, 0, none⟩) 2 2)) (fun i => (w.heap.size < i ∧ i ≠ w3.heap.size) ∧ i ≠ b) [.mk k' n kids pp, .mk k9 n' kids' pp'] (some ⟨w7.heap.size, 0, none⟩)) :=
                (NdRow.buildK (ok := fun i => (w.heap.size < i ∧ i ≠ w3.heap.size) ∧ i ≠ b) ⟨⟨by omega, by omega⟩, by omega⟩ (NFlat.two ((hkk.out.wide (fun i hi _ => by omega)).cells (k := k') (n := n) (p := pp) (c := c')) ((hk7.wide (fun i hi _ => by omega)).cells (k := k9) (n := n') (p := pp') (c := c9)))).set (fun i hi => hi.2)
              have HS8 : Hid (PSt C ((w7.alloc (.cells #[.int .i64 k', .string ⟨n.toArray⟩, .slice y (List.length kids) c', .int .i64 pp, .int .i64 k9, .string ⟨n'.toArray⟩, .slice y' (List.length kids') c9, .int .i64 pp'] 53)).setCell ⟨b, 2, none⟩ (.slice (some ⟨w7.heap.size, 0, none⟩) 2 2)) q7) := H0.out.keep hs7 (((Kp.refl _ _).alloc (by omega) (.cells #[.int .i64 k', .string ⟨n.toArray⟩, .slice y (List.length kids) c', .int .i64 pp, .int .i64 k9, .string ⟨n'.toArray⟩, .slice y' (List.length kids') c9, .int .i64 pp'] 53)).set (k := b) (o := 2) (v := .slice (some ⟨w7.heap.size, 0, none⟩) 2 2) (by omega))
              have HZ8 : Hid (Box4 ((w7.alloc (.cells #[.int .i64 k', .string ⟨n.toArray⟩, .slice y (List.length kids) c', .int .i64 pp, .int .i64 k9, .string ⟨n'.toArray⟩, .slice y' (List.length kids') c9, .int .i64 pp'] 53)).setCell ⟨b, 2, none⟩ (.slice (some ⟨w7.heap.size, 0, none⟩) 2 2)) w.heap.size (.int .i64 0) (.string ⟨#[]⟩) (.slice none 0 0) (.int .i64 0)) := Box4.other (HZ.out.alloc (.cells #[.int .i64 k', .string ⟨n.toArray⟩, .slice y (List.length kids) c', .int .i64 pp, .int .i64 k9, .string ⟨n'.toArray⟩, .slice y' (List.length kids') c9, .int .i64 pp'] 53)) d1
              have HX8 : Hid (Box4 ((w7.alloc (.cells #[.int .i64 k', .string ⟨n.toArray⟩, .slice y (List.length kids) c', .int .i64 pp, .int .i64 k9, .string ⟨n'.toArray⟩, .slice y' (List.length kids') c9, .int .i64 pp'] 53)).setCell ⟨b, 2, none⟩ (.slice (some ⟨w7.heap.size, 0, none⟩) 2 2)) w3.heap.size (.int .i64 k') (.string ⟨n.toArray⟩) (.slice y (List.length kids) c') (.int .i64 pp)) := Box4.other (HX.out.alloc (.cells #[.int .i64 k', .string ⟨n.toArray⟩, .slice y (List.length kids) c', .int .i64 pp, .int .i64 k9, .string ⟨n'.toArray⟩, .slice y' (List.length kids') c9, .int .i64 pp'] 53)) d2
              obtain ⟨z0', z1', z2', z3', zf'⟩ := HZ8.out.facts
              obtain ⟨x0', x1', x2', x3', xf'⟩ := HX8.out.facts
              obtain ⟨n0', n1', n2', n3', nf'⟩ := Box4.facts (Box4.set2 (v := .slice (some ⟨w7.heap.size, 0, none⟩) 2 2) (HN.out.alloc (.cells #[.int .i64 k', .string ⟨n.toArray⟩, .slice y (List.length kids) c', .int .i64 pp, .int .i64 k9, .string ⟨n'.toArray⟩, .slice y' (List.length kids') c9, .int .i64 pp'] 53)))
              have kk3 : ((w7.alloc (.cells #[.int .i64 k', .string ⟨n.toArray⟩, .slice y (List.length kids) c', .int .i64 pp, .int .i64 k9, .string ⟨n'.toArray⟩, .slice y' (List.length kids') c9, .int .i64 pp'] 53)).setCell ⟨b, 2, none⟩ (.slice (some ⟨w7.heap.size, 0, none⟩) 2 2)).cell? ⟨bk, 0, none⟩ = some (.int .i64 k) := (World.cell?_of_block (Below.heap_setCell _ _ _ _ d5)).trans (al_cell k3 _)
              have HO9 : Hid (Ow C.pb w ((w7.alloc (.cells #[.int .i64 k', .string ⟨n.toArray⟩, .slice y (List.length kids) c', .int .i64 pp, .int .i64 k9, .string ⟨n'.toArray⟩, .slice y' (List.length kids') c9, .int .i64 pp'] 53)).setCell ⟨b, 2, none⟩ (.slice (some ⟨w7.heap.size, 0, none⟩) 2 2))) := HO8.out.set (by omega)
              obtain ⟨W8, hW8⟩ : ∃ W8, (w7.alloc (.cells #[.int .i64 k', .string ⟨n.toArray⟩, .slice y (List.length kids) c', .int .i64 pp, .int .i64 k9, .string ⟨n'.toArray⟩, .slice y' (List.length kids') c9, .int .i64 pp'] 53)).setCell ⟨b, 2, none⟩ (.slice (some ⟨w7.heap.size, 0, none⟩) 2 2) = W8 := ⟨_, rfl⟩
              rw [hW8] at HRW HS8 HZ8 HX8 z0' z1' z2' z3' x0' x1' x2' x3' n0' n1' n2' n3' kk3 HO9 ⊢
              simp only [hW8] at zf' xf' nf'
              have hw8 : w3.heap.size < W8.heap.size := HX8.out.lt
              have X2 : IntKind.i64.wrap ((k : Int) + 1) = (k : Int) + 1 := IntWalk.i64_in _ (by omega)
              have hR := HS2.out
              rw [HRES.out] at hR
              simp only [Res.bind] at hR
              have HW8 := Lib.hid hW8
              clear hW8 hk7 hs7 ho7 hkk HZ HX HN z0 z1 z2 z3 zf x0 x1 x2 x3 xf n0 n1 n2 n3 nf k0 k1 k2 k3 l2 lf HO8 j2 jf c4 HS2 HX'
              by_cases hk2 : k = 2
              · rw [if_pos hk2] at hR
                have HR := Lib.hid hR
                have Q : ((k : Int) + 1 == 3) = true := by rw [hk2]; rfl
                clear hR
                go_wp2_with fail
                refine ret_node rfl rfl rfl (by simp [go_sem, z0']) (by simp [go_sem, z1']) (by simp [go_sem, z2']) (by simp [go_sem, z3']) (.inl ⟨12, tx, [.mk k' n kids pp, .mk k9 n' kids' pp'], pl, some ⟨w7.heap.size, 0, none⟩, ⟨2, Nat.le_refl _⟩, q7, HR.out.symm, rfl, ((HRW.out.set4 (fun i hi => hi.1.2)).set4 (fun i hi => by omega)).wide (fun i hi _ => by omega), H0.out.keep HS8.out (((Kp.refl _ _).set4 (by omega)).set4 (Nat.le_refl _)), (HO9.out.set4 (by omega)).set4 (Nat.le_refl _)⟩)
              · rw [if_neg hk2] at hR
                have HR := Lib.hid hR
                have Q : ((k : Int) + 1 == 3) = false := beq_eq_false_iff_ne.2 (by omega)
                clear hR
                go_wp2_with fail
                go_roundg g'
                case measure => omega
                case rel =>
                  exact ⟨12, tx, [.mk k' n kids pp, .mk k9 n' kids' pp'], pl, some ⟨w7.heap.size, 0, none⟩, ⟨2, Nat.le_refl _⟩, q7, HZ8.out.other4 (by omega), HX8.out.set4, (HRW.out.set4 (fun i hi => hi.1.2)).wide (fun i hi _ => hi.1), H0.out.keep HS8.out ((Kp.refl _ _).set4 (by omega)), HO9.out.set4 (by omega), HR⟩)
  · refine ⟨rfl, .inr ⟨q, ?_, b, Nat.le_trans HA.out.size hd1, rfl, hd3, HA.out.trans hd4⟩⟩
    rw [E.out, hr3]
    rfl
end Go.Proofs.YtpbkeamjdolpgaaGreatDoor
namespace Go.Proofs.YtpbkeamjdolpgaaGreatDoor
open Go.RowKit Go.Lib Go.Shelf

attribute [local go_sem] Oper.semAt_some

def Kb (n x : Nat) (W W' : World) : Prop := ∀ k, k < n → k ≠ x → W'.heap[k]? = W.heap[k]?
theorem Kb.refl (n x : Nat) (W : World) : Kb n x W W := fun _ _ _ => rfl
theorem Kb.trans {n x : Nat} {A B C : World} (h : Kb n x A B) (k : Kb n x B C) : Kb n x A C := fun i h1 h2 => (k i h1 h2).trans (h i h1 h2)
theorem Kb.of_below {n x : Nat} {A B : World} (h : Below A.heap.size A B) (hn : n ≤ A.heap.size) : Kb n x A B := fun i h1 _ => h.block i (by omega)
theorem Kb.set {n x : Nat} {A B : World} (h : Kb n x A B) (o : Nat) (v : Value) : Kb n x A (B.setCell ⟨x, o, none⟩ v) := fun i h1 h2 => (Below.heap_setCell B _ v i h2).trans (h i h1 h2)
theorem Kb.put {n x : Nat} (W : World) (l : Nat) (o' : Obj) (hl : n ≤ l) : Kb n x W (W.putObj l o') := fun i h1 _ => World.putObj_heap_other (by omega)
def five : List Nat := [4, 3, 2, 1, 0]
def sgE (g k : Nat) : Array Value := #[.int .i64 (k : Int), sgV (g + k) k]

set_option maxRecDepth 100000 in
set_option maxHeartbeats 8000000 in
theorem back1_in (F : Fence) (n : Nat) (hF : F.fn 195) (hro : F.round = none) (hn : 1 ≤ n) (l Bs n₀ x0 b c g : Nat) (hb : b < n₀) (hBsn : Bs < n₀) (hb2 : b ≠ x0) (hBs2 : Bs ≠ x0) (J Jx : List Nat → World → Prop)
    (hY : ∀ pre x W, J pre W → pre.length < 5 → YieldAt F (n - 1) Tryz.prog l (sgE g x) W fun e W' =>
      (e = .returned (.bool true) ∧ J (pre ++ [x]) W' ∧ Kb n₀ x0 W W') ∨ (e = .returned (.bool false) ∧ Jx (pre ++ [x]) W'))
    (W : World) (hBs : W.cell? ⟨Bs, 0, none⟩ = some (.slice (some ⟨b, 0, none⟩) 5 c)) (hc : ∀ k, k ≤ 4 → W.cell? ⟨b, k, none⟩ = some (sgV (g + k) k)) (h0 : J [] W) :
    CallsIn F n Tryz.prog 195 #[.func (.yield l) #[] #[], .pointer (some ⟨Bs, 0, none⟩)] W fun e W' => (∃ v, e = .returned v) ∧
      ((∃ ys, ys = five ∧ J ys W') ∨ (∃ pre, True ∧ Jx pre W')) := by
  refine callsIn_of_wp Tryz.func195 rfl hF ?_ hro
  simp only [Tryz.ntmps195, List.size_toArray, List.length_cons, List.length_nil, Nat.reduceAdd, Nat.reduceSub, Array.replicate_succ, Array.replicate_zero, List.push_toArray, List.append_toArray, List.nil_append, List.cons_append]
  gi_wp2
  gi_loopw [3] (fun i wr => ∃ k : Nat, k ≤ 5 ∧ i = .int .i64 (4 - (k : Int)) ∧ J (five.take k) wr ∧ Kb n₀ x0 W wr)
    (fun i _ => ((RowKit.intOf i) + 1).toNat)
  case atStart => exact ⟨0, by omega, rfl, h0, Kb.refl _ _ _⟩
  case round =>
    obtain ⟨k, hk, hi, hJs, hnx⟩ := hrel
    have hcb : wr.cell? ⟨Bs, 0, none⟩ = some (.slice (some ⟨b, 0, none⟩) 5 c) := (World.cell?_of_block (hnx Bs hBsn hBs2)).trans hBs
    have hcx : ∀ j, j ≤ 4 → wr.cell? ⟨b, j, none⟩ = some (sgV (g + j) j) := fun j h => (World.cell?_of_block (hnx b hb hb2)).trans (hc j h)
    match k, hk with
    | 0, _ =>
      have hi2 := hi.trans (show _ = Value.int .i64 4 from rfl)
      subst hi2
      obtain ⟨fn, tmps, assign, body, hy, hR⟩ := hY _ 4 wr hJs (by simp [five])
      have hcx' : wr.cell? ⟨b, 4, none⟩ = some (.slice (some ⟨g + 4, 0, none⟩) (signsK 4).length (signsK 4).length) := hcx 4 (by omega)
      have hy2 : (Instr.yield l #[.int .i64 4, .slice (some ⟨g + 4, 0, none⟩) (signsK 4).length (signsK 4).length]).run Tryz.prog wr = _ := hy
      clear hcx hi hy
      gi_wp2
      refine hR.mono ?_
      rintro e W3 (⟨rfl, hJ3, hk3⟩ | ⟨rfl, hJx3⟩)
      · gi_wp2
        go_roundw
        case rel => exact ⟨1, by omega, rfl, hJ3, hnx.trans hk3⟩
        case measure => simp [RowKit.intOf]
      · gi_wp2
        refine bodyPost_ret (results_none rfl _ _ _) rfl ?_
        exact ⟨⟨_, rfl⟩, .inr ⟨_, trivial, hJx3⟩⟩
    | 1, _ =>
      have hi2 := hi.trans (show _ = Value.int .i64 3 from rfl)
      subst hi2
      obtain ⟨fn, tmps, assign, body, hy, hR⟩ := hY _ 3 wr hJs (by simp [five])
      have hcx' : wr.cell? ⟨b, 3, none⟩ = some (.slice (some ⟨g + 3, 0, none⟩) (signsK 3).length (signsK 3).length) := hcx 3 (by omega)
      have hy2 : (Instr.yield l #[.int .i64 3, .slice (some ⟨g + 3, 0, none⟩) (signsK 3).length (signsK 3).length]).run Tryz.prog wr = _ := hy
      clear hcx hi hy
      gi_wp2
      refine hR.mono ?_
      rintro e W3 (⟨rfl, hJ3, hk3⟩ | ⟨rfl, hJx3⟩)
      · gi_wp2
        go_roundw
        case rel => exact ⟨2, by omega, rfl, hJ3, hnx.trans hk3⟩
        case measure => simp [RowKit.intOf]
      · gi_wp2
        refine bodyPost_ret (results_none rfl _ _ _) rfl ?_
        exact ⟨⟨_, rfl⟩, .inr ⟨_, trivial, hJx3⟩⟩
    | 2, _ =>
      have hi2 := hi.trans (show _ = Value.int .i64 2 from rfl)
      subst hi2
      obtain ⟨fn, tmps, assign, body, hy, hR⟩ := hY _ 2 wr hJs (by simp [five])
      have hcx' : wr.cell? ⟨b, 2, none⟩ = some (.slice (some ⟨g + 2, 0, none⟩) (signsK 2).length (signsK 2).length) := hcx 2 (by omega)
      have hy2 : (Instr.yield l #[.int .i64 2, .slice (some ⟨g + 2, 0, none⟩) (signsK 2).length (signsK 2).length]).run Tryz.prog wr = _ := hy
      clear hcx hi hy
      gi_wp2
      refine hR.mono ?_
      rintro e W3 (⟨rfl, hJ3, hk3⟩ | ⟨rfl, hJx3⟩)
      · gi_wp2
        go_roundw
        case rel => exact ⟨3, by omega, rfl, hJ3, hnx.trans hk3⟩
        case measure => simp [RowKit.intOf]
      · gi_wp2
        refine bodyPost_ret (results_none rfl _ _ _) rfl ?_
        exact ⟨⟨_, rfl⟩, .inr ⟨_, trivial, hJx3⟩⟩
    | 3, _ =>
      have hi2 := hi.trans (show _ = Value.int .i64 1 from rfl)
      subst hi2
      obtain ⟨fn, tmps, assign, body, hy, hR⟩ := hY _ 1 wr hJs (by simp [five])
      have hcx' : wr.cell? ⟨b, 1, none⟩ = some (.slice (some ⟨g + 1, 0, none⟩) (signsK 1).length (signsK 1).length) := hcx 1 (by omega)
      have hy2 : (Instr.yield l #[.int .i64 1, .slice (some ⟨g + 1, 0, none⟩) (signsK 1).length (signsK 1).length]).run Tryz.prog wr = _ := hy
      clear hcx hi hy
      gi_wp2
      refine hR.mono ?_
      rintro e W3 (⟨rfl, hJ3, hk3⟩ | ⟨rfl, hJx3⟩)
      · gi_wp2
        go_roundw
        case rel => exact ⟨4, by omega, rfl, hJ3, hnx.trans hk3⟩
        case measure => simp [RowKit.intOf]
      · gi_wp2
        refine bodyPost_ret (results_none rfl _ _ _) rfl ?_
        exact ⟨⟨_, rfl⟩, .inr ⟨_, trivial, hJx3⟩⟩
    | 4, _ =>
      have hi2 := hi.trans (show _ = Value.int .i64 0 from rfl)
      subst hi2
      obtain ⟨fn, tmps, assign, body, hy, hR⟩ := hY _ 0 wr hJs (by simp [five])
      have hcx' : wr.cell? ⟨b, 0, none⟩ = some (.slice (some ⟨g, 0, none⟩) (signsK 0).length (signsK 0).length) := hcx 0 (by omega)
      have hy2 : (Instr.yield l #[.int .i64 0, .slice (some ⟨g, 0, none⟩) (signsK 0).length (signsK 0).length]).run Tryz.prog wr = _ := hy
      clear hcx hi hy
      gi_wp2
      refine hR.mono ?_
      rintro e W3 (⟨rfl, hJ3, hk3⟩ | ⟨rfl, hJx3⟩)
      · gi_wp2
        go_roundw
        case rel => exact ⟨5, by omega, rfl, hJ3, hnx.trans hk3⟩
        case measure => simp [RowKit.intOf]
      · gi_wp2
        refine bodyPost_ret (results_none rfl _ _ _) rfl ?_
        exact ⟨⟨_, rfl⟩, .inr ⟨_, trivial, hJx3⟩⟩
    | 5, _ =>
      have hi2 := hi.trans (show _ = Value.int .i64 (-1) from rfl)
      subst hi2
      clear hcx hi
      gi_wp2
      go_end0
      exact ⟨⟨_, rfl⟩, .inl ⟨_, rfl, hJs⟩⟩
theorem back_stops (F : Fence) (n : Nat) (hF : F.fn 195) (hro : F.round = none) (hn : 1 ≤ n) (Bs n₀ x0 b c g : Nat) (w : World) (hb : b < n₀) (hBsn : Bs < n₀) (hb2 : b ≠ x0) (hBs2 : Bs ≠ x0) (hn₀ : n₀ ≤ w.heap.size)
    (hBs : w.cell? ⟨Bs, 0, none⟩ = some (.slice (some ⟨b, 0, none⟩) 5 c)) (hc : ∀ k, k ≤ 4 → w.cell? ⟨b, k, none⟩ = some (sgV (g + k) k)) :
    SeqStopsK F n Tryz.prog 195 #[.pointer (some ⟨Bs, 0, none⟩)] (sgE g) (Kb n₀ x0) (fun ys => ys = five) (fun _ => True) 5 w := fun l J Jx W hW _ _ hY h0 =>
  back1_in F n hF hro hn l Bs n₀ x0 b c g hb hBsn hb2 hBs2 J Jx hY W ((hW.cell (p := ⟨Bs, 0, none⟩) (by show Bs < _; omega)).trans hBs) (fun k hk => (hW.cell (p := ⟨b, k, none⟩) (by show b < _; omega)).trans (hc k hk)) h0
end Go.Proofs.YtpbkeamjdolpgaaGreatDoor
namespace Go.Proofs.YtpbkeamjdolpgaaGreatDoor
open Go.RowKit Go.Lib Go.Shelf

attribute [local go_sem] Oper.semAt_some

def Lev (C : Ctx) (B bp g : Nat) : List Nat → Value → World → Prop
  | [], v, _ => v = .func (.func 162) #[.pointer (some ⟨C.pb, 0, none⟩)] #[]
  | k :: r, v, W => ∃ bt bl bk vt, v = .func (.func 166) #[] #[.pointer (some ⟨bt, 0, none⟩), .pointer (some ⟨bl, 0, none⟩), .pointer (some ⟨bp, 0, none⟩), .pointer (some ⟨bk, 0, none⟩)] ∧ B < bt ∧ B < bl ∧ B < bk ∧
      Boxed W bt 70 vt ∧ Boxed W bl 44 (sgV (g + k) k) ∧ Boxed W bk 3 (.int .i64 (k : Int)) ∧ Lev C B bp g r vt W
theorem Lev.mono {C : Ctx} {B bp g : Nat} {W W' : World} (h : ∀ b c t fz, B < b → W.heap[b]? = some (.cells c t fz) → W'.heap[b]? = some (.cells c t fz)) : ∀ {l : List Nat} {v : Value}, Lev C B bp g l v W → Lev C B bp g l v W'
  | [], _, h0 => h0
  | k :: r, v, h0 => by
    obtain ⟨bt, bl, bk, vt, h1, h2, h3, h4, h5, h6, h7, h8⟩ := h0
    exact ⟨bt, bl, bk, vt, h1, h2, h3, h4, h _ _ _ _ h2 h5, h _ _ _ _ h3 h6, h _ _ _ _ h4 h7, h8.mono h⟩
theorem lev_one {C : Ctx} {B bp g : Nat} {W0 : World} (hB : C.pb ≤ B) (hbp : Boxed W0 bp 94 (.pointer (some ⟨C.pb, 0, none⟩))) (hbp2 : bp ≠ C.pb) (hg : SgAll W0 g) (hg2 : C.pb < g) (ex : Nat → Res Nd) (f : Nat) (hf : f ≤ 8192) (hu : OneT C 162 (unaryL C.ts C.s.size ex f f)) :
    ∀ (d : Nat) (l : List Nat) (v : Value), d ≤ 5 → l = (five.take d).reverse → Lev C B bp g l v W0 → ∃ F first cap, v = .func (.func F) first cap ∧ (∀ args w, (callFunc F args).run Tryz.prog w = .ok (.enter F args) w) ∧ OneC C F (first ++ cap) (fun W' => Ow C.pb W0 W') (levO C.ts C.s.size ex f d)
  | 0, l, v, _, hl, h => by
    subst hl
    obtain rfl : v = _ := h
    exact ⟨_, _, _, rfl, enters_of Tryz.func162 (by kernel_rfl) rfl, fun w p h1 _ h3 => hu w p h1 trivial h3⟩
  | d + 1, l, v, hd, hl, h => by
    have hk : ∃ r, l = (4 - d) :: r ∧ r = (five.take d).reverse := by
      subst hl
      match d, hd with
      | 0, _ => exact ⟨_, rfl, rfl⟩
      | 1, _ => exact ⟨_, rfl, rfl⟩
      | 2, _ => exact ⟨_, rfl, rfl⟩
      | 3, _ => exact ⟨_, rfl, rfl⟩
      | 4, _ => exact ⟨_, rfl, rfl⟩
    obtain ⟨r, rfl, hr⟩ := hk
    obtain ⟨bt, bl, bk, vt, rfl, h2, h3, h4, h5, h6, h7, h8⟩ := h
    obtain ⟨F, first, cap, rfl, eg, ht⟩ := lev_one hB hbp hbp2 hg hg2 ex f hf hu d r vt (by omega) hr h8
    have hcap : Cap C bt bl bp bk F first cap (g + (4 - d)) (signsK (4 - d)).length (4 - d) W0 := ⟨h5.cell, h6.cell, hbp.cell, h7.cell, (hg (4 - d) (by omega)).1, by omega, by omega, hbp2, by omega, by omega⟩
    refine ⟨_, _, _, rfl, enters_of Tryz.func166 (by kernel_rfl) rfl, fun w p h1 hi h3 => ?_⟩
    exact level_any C bt bl bp bk F first cap (g + (4 - d)) (signsK (4 - d)).length (4 - d) (by omega) (fun W' => Ow C.pb W0 W') (fun _ _ a b => a.trans b) eg (levO C.ts C.s.size ex f d) ht f hf w p h1 ⟨hi, hcap.ow hi⟩ h3

def Cst (W W' : World) : Prop := ∀ (b : Nat) (c : Array Value) (t : TypeId) (fz : Nat × Nat), W.heap[b]? = some (Obj.cells c t fz) → W'.heap[b]? = some (Obj.cells c t fz)
theorem Cst.of_grown {W W' : World} {row : Option Nat} (hg : W.grownBy W' row) (hr : ∀ r, row = some r → ∃ o : Obj, W.heap[r]? = some o ∧ o.isCells = false) : Cst W W' := fun b c t fz h => by
  refine (hg.block b ((Array.getElem?_eq_some_iff.1 h).1) (fun e => ?_)).trans h
  obtain ⟨o, ho, hc⟩ := hr b e.symm
  rw [h] at ho
  cases ho
  cases hc
theorem Cst.cell {W W' : World} (h : Cst W W') {a : Addr} {v : Value} (hc : W.cell? a = some v) : W'.cell? a = some v := by
  have h' := hc
  unfold World.cell? at h'
  split at h'
  · rename_i c t fz he
    have := h _ _ _ _ he
    unfold World.cell? at hc ⊢
    rw [this]
    rw [he] at hc
    exact hc
  · cases h'
theorem Cst.pst {C : Ctx} {W W' : World} {p : Nat} (h : Cst W W') (hs : PSt C W p) : PSt C W' p :=
  ⟨h _ _ _ _ hs.blk, fun i u hu => by
    obtain ⟨g, h1, h2, h3, h4⟩ := hs.row i u hu
    exact ⟨g, h1, h.cell h2, h.cell h3, h.cell h4⟩, hs.xne, hs.le, hs.len⟩
theorem Cst.sg {W W' : World} {g : Nat} (h : Cst W W') (hz : W.heap.size ≤ W'.heap.size) (hs : SgAll W g) : SgAll W' g := fun k hk => ⟨fun j u hj => h.cell ((hs k hk).1 j u hj), Nat.lt_of_lt_of_le (hs k hk).2 hz⟩
def Rng (C : Ctx) (w : World) (m p g : Nat) (pre : List Nat) (W : World) : Prop :=
  ((∃ v, Boxed W (w.heap.size + 1 + 1) 70 v ∧ Lev C (w.heap.size + 1 + 1) w.heap.size g pre.reverse v W) ∧ Boxed W w.heap.size 94 (.pointer (some ⟨C.pb, 0, none⟩)) ∧ Box4 W (w.heap.size + 1) (.int .i64 0) (.string ⟨#[]⟩) (.slice none 0 0) (.int .i64 0) ∧ PSt C W p ∧ (SgAll W g ∧ m ≤ W.heap.size)) ∧ Below w.heap.size w W
theorem Rng.own {C : Ctx} {w : World} {m p g B : Nat} (hB : w.heap.size ≤ B) : OwnFrom B (Rng C w m p g) :=
  OwnFrom.and (Own.from (fun s W W' row hs hg hr => by
    have hc := Cst.of_grown hg hr
    obtain ⟨⟨v, h1, h2⟩, h3, h4, h5, h6⟩ := hs
    exact ⟨⟨v, hc _ _ _ _ h1, h2.mono fun b c t fz _ h => hc b c t fz h⟩, hc _ _ _ _ h3, hc _ _ _ _ h4, hc.pst h5, hc.sg hg.size h6.1, Nat.le_trans h6.2 hg.size⟩) _) (ownFrom_below (Nat.le_refl _) hB)
theorem Cst.alloc (W : World) (o : Obj) : Cst W (W.alloc o) := fun _ _ _ _ h => heap_up h
theorem Cst.trans {A B C : World} (h : Cst A B) (k : Cst B C) : Cst A C := fun b c t fz e => k b c t fz (h b c t fz e)
theorem Rng.cst {C : Ctx} {w W W' : World} {m p g : Nat} {pre : List Nat} (h : Rng C w m p g pre W) (hc : Cst W W') (hb : Below W.heap.size W W') : Rng C w m p g pre W' := by
  obtain ⟨⟨⟨v, h1, h2⟩, h3, h4, h5, h6⟩, h7⟩ := h
  exact ⟨⟨⟨v, hc _ _ _ _ h1, h2.mono fun b c t fz _ h => hc b c t fz h⟩, hc _ _ _ _ h3, hc _ _ _ _ h4, hc.pst h5, hc.sg hb.size h6.1, Nat.le_trans h6.2 hb.size⟩, h7.trans (hb.mono h7.size)⟩
theorem lev_func {C : Ctx} {B bp g : Nat} {W : World} : ∀ {l : List Nat} {v : Value}, Lev C B bp g l v W → ∃ fn fi ca, v = .func fn fi ca
  | [], _, h => ⟨_, _, _, h⟩
  | _ :: _, _, ⟨_, _, _, _, h, _⟩ => ⟨_, _, _, h⟩
theorem Rng.next {C : Ctx} {w W : World} {m p g x bi bl : Nat} {pre : List Nat} {v : Value} (h : Rng C w m p g pre W) (hv : Boxed W (w.heap.size + 1 + 1) 70 v) (hi : Boxed W bi 3 (.int .i64 (x : Int))) (hl : Boxed W bl 44 (sgV (g + x) x)) (hbi : w.heap.size + 1 + 1 < bi) (hbl : w.heap.size + 1 + 1 < bl) (h0 : PSt C w p) (hgl : w.heap.size + 1 + 1 < g) :
    Rng C w m p g (pre ++ [x]) ((W.alloc (.cells #[v] 70)).setCell ⟨w.heap.size + 1 + 1, 0, none⟩ (.func (.func 166) #[] #[.pointer (some ⟨W.heap.size, 0, none⟩), .pointer (some ⟨bl, 0, none⟩), .pointer (some ⟨w.heap.size, 0, none⟩), .pointer (some ⟨bi, 0, none⟩)])) := by
  have hk := h.2.size
  obtain ⟨⟨⟨v', h1, h2⟩, h3, h4, h5, h6⟩, h7⟩ := h
  have hvv : v' = v := by
    have := (show W.heap[_]? = _ from h1).symm.trans hv
    simpa using this
  subst hvv
  have hlt := h1.lt
  have hb : ∀ b, b ≠ w.heap.size + 1 + 1 → b < W.heap.size → ∀ f, ((W.alloc (.cells #[v'] 70)).setCell ⟨w.heap.size + 1 + 1, 0, none⟩ f).heap[b]? = W.heap[b]? := fun b h1 h2 f => (Below.heap_setCell _ _ _ b h1).trans (Below.heap_alloc _ _ b h2)
  refine ⟨⟨⟨_, (h1.alloc _).set _, ?_⟩, (hb _ (by omega) h3.lt _).trans h3, (hb _ (by omega) h4.lt _).trans h4, ?_, ?_⟩, (h7.alloc h7.size _).setCell (p := ⟨w.heap.size + 1 + 1, 0, none⟩) (by simp; omega) _⟩
  · rw [List.reverse_append]
    refine ⟨W.heap.size, bl, bi, v', rfl, by omega, hbl, hbi, ?_, (hb _ (by omega) hl.lt _).trans hl, (hb _ (by omega) hi.lt _).trans hi, h2.mono fun b c t fz hb2 he => (hb b (by omega) ((Array.getElem?_eq_some_iff.1 he).1) _).trans he⟩
    exact (Below.heap_setCell _ _ _ _ (by simp; omega)).trans (Boxed.new W _ _)
  · exact h0.keep h5 fun k hk2 => hb k (by omega) (by omega) _
  · exact ⟨fun k hk2 => ⟨fun j u hj => (World.cell?_of_block (hb (g + k) (by omega) (h6.1 k hk2).2 _)).trans ((h6.1 k hk2).1 j u hj), by have := (h6.1 k hk2).2; simp [World.setCell]; omega⟩, by have := h6.2; simp [World.setCell]; omega⟩

abbrev Ld (bx : Nat) (v0 v1 v2 v3 : Value) (bz : Nat) (u0 u1 u2 u3 : Value) (bp : Nat) (pv : Value) (w' : World) : Prop :=
  w'.cell? ⟨bx, 0, none⟩ = some v0 ∧ w'.cell? ⟨bx, 1, none⟩ = some v1 ∧ w'.cell? ⟨bx, 2, none⟩ = some v2 ∧ w'.cell? ⟨bx, 3, none⟩ = some v3 ∧ w'.cell? ⟨bz, 0, none⟩ = some u0 ∧ w'.cell? ⟨bz, 1, none⟩ = some u1 ∧ w'.cell? ⟨bz, 2, none⟩ = some u2 ∧ w'.cell? ⟨bz, 3, none⟩ = some u3 ∧ w'.cell? ⟨bp, 0, none⟩ = some pv
theorem Ld.of {bx bz bp : Nat} {v0 v1 v2 v3 u0 u1 u2 u3 pv : Value} {w' : World} (hx : Box4 w' bx v0 v1 v2 v3) (hz : Box4 w' bz u0 u1 u2 u3) (hp : w'.cell? ⟨bp, 0, none⟩ = some pv) : Ld bx v0 v1 v2 v3 bz u0 u1 u2 u3 bp pv w' := by
  obtain ⟨a0, a1, a2, a3, _⟩ := hx.facts
  obtain ⟨b0, b1, b2, b3, _⟩ := hz.facts
  exact ⟨a0, a1, a2, a3, b0, b1, b2, b3, hp⟩
theorem heap_set4 {W : World} {b D : Nat} {v0 v1 v2 v3 : Value} {o : Option Obj} (h : W.heap[D]? = o) (hn : D ≠ b) : ((((W.setCell ⟨b, 0, none⟩ v0).setCell ⟨b, 1, none⟩ v1).setCell ⟨b, 2, none⟩ v2).setCell ⟨b, 3, none⟩ v3).heap[D]? = o :=
  (Below.heap_setCell _ _ _ D hn).trans ((Below.heap_setCell _ _ _ D hn).trans ((Below.heap_setCell _ _ _ D hn).trans ((Below.heap_setCell _ _ _ D hn).trans h)))
theorem put_cell {W : World} {D : Nat} {o : Obj} {a : Addr} (h : a.block ≠ D) : (W.putObj D o).cell? a = W.cell? a := World.cell?_of_block (World.putObj_heap_other h)
theorem cell_ne {W : World} {D : Nat} {d : Option (List Deferred)} {a : Addr} {v : Value} (hK : W.heap[D]? = some (.deferred d)) (h : W.cell? a = some v) : a.block ≠ D := by
  intro e
  unfold World.cell? at h
  rw [e, hK] at h
  cases h
theorem leave_ret {fn : Func} {R : Ending → World → Prop} (hr : fn.results = #[.cell 2 53]) {a : Act} {W : World} {D g : Nat} {v0 v1 v2 v3 : Value} (hd : a.defers = [{ target := .collected D, args := #[] }]) (hp : a.tmps.getD 2 undef = .pointer (some ⟨g, 0, none⟩)) (hK : W.heap[D]? = some (.deferred (some [])))
    (c0 : W.cell? ⟨g, 0, none⟩ = some v0) (c1 : W.cell? ⟨g, 1, none⟩ = some v1) (c2 : W.cell? ⟨g, 2, none⟩ = some v2) (c3 : W.cell? ⟨g, 3, none⟩ = some v3) (h : R (.returned (.agg #[v0, v1, v2, v3])) (W.putObj D (.deferred none))) : bodyPostM Fence.wide 3 Tryz.prog fn R .ret a W := by
  have hp' : a.tmps[2]?.getD undef = .pointer (some ⟨g, 0, none⟩) := by simpa using hp
  have hg : g ≠ D := cell_ne hK c0
  have d0 := (put_cell (o := .deferred none) (D := D) (W := W) (a := ⟨g, 0, none⟩) hg).trans c0
  have d1 := (put_cell (o := .deferred none) (D := D) (W := W) (a := ⟨g, 1, none⟩) hg).trans c1
  have d2 := (put_cell (o := .deferred none) (D := D) (W := W) (a := ⟨g, 2, none⟩) hg).trans c2
  have d3 := (put_cell (o := .deferred none) (D := D) (W := W) (a := ⟨g, 3, none⟩) hg).trans c3
  show LeavesInM _ _ _ _ _ _ a.defers _ _
  rw [hd]
  refine ⟨by simp, .inl ⟨_, _, rfl, run_takeDeferred hK, ?_⟩⟩
  exact ⟨_, by simp [results, hr, hp', go_sem, d0, d1, d2, d3], h⟩
theorem leave_panic {fn : Func} {R : Ending → World → Prop} {a : Act} {W : World} {D : Nat} {ch : List PanicEntry} (hd : a.defers = [{ target := .collected D, args := #[] }]) (hK : W.heap[D]? = some (.deferred (some []))) (h : R (.panicked ch) (W.putObj D (.deferred none))) : bodyPostM Fence.wide 3 Tryz.prog fn R (.panic ch) a W := by
  show LeavesInM _ _ _ _ _ _ a.defers _ _
  rw [hd]
  exact ⟨by simp, .inl ⟨_, _, rfl, run_takeDeferred hK, h⟩⟩
theorem Ow.put {b : Nat} {w W : World} {D : Nat} (h : Ow b w W) (hD : w.heap.size ≤ D) (o : Obj) : Ow b w (W.putObj D o) :=
  ⟨h.os, h.tape, h.output, by have := h.size; simpa [World.putObj] using this, fun k hk hn => (World.putObj_heap_other (by omega)).trans (h.block k hk hn)⟩
theorem dead_put {C : Ctx} {w W W' : World} {q D b : Nat} (hD : w.heap.size ≤ D) (hDW : D < W.heap.size) (ho : Ow C.pb w W) (h1 : W.heap.size ≤ b) (h3 : W'.heap[b]? = some (.cells #[.int .i64 270, .int .i64 (placeT C.ts C.s.size q), .string ⟨(textT C.ts q).toArray⟩] 61 (0, 0))) (h4 : Ow C.pb W W') :
    DeadF C w (W'.putObj D (.deferred none)) q (.panicked [{ v := .iface 23 (.pointer (some ⟨b, 0, none⟩)), recovered := false }]) :=
  ⟨b, Nat.le_trans ho.size h1, rfl, (World.putObj_heap_other (by omega)).trans h3, (ho.trans h4).put hD _⟩
theorem ret_put {C : Ctx} {w W : World} {p q D : Nat} {R : Res Nd} {k : Int} {n : List UInt8} {kids : List Nd} {pp : Int} {y : Option Addr} {c : Cp kids.length} {ok : Nat → Prop} (h0 : PSt C w p) (hD : w.heap.size ≤ D) (hR : R = .ok (.mk k n kids pp) q) (hk : NdRow W ok kids y) (hok : ∀ b, ok b → w.heap.size ≤ b ∧ b ≠ D) (hs : PSt C W q) (ho : Ow C.pb w W) :
    FinN C w R (.returned (.agg #[.int .i64 k, .string ⟨n.toArray⟩, .slice y kids.length c, .int .i64 pp])) (W.putObj D (.deferred none)) :=
  .inl ⟨k, n, kids, pp, y, c, q, hR, rfl, NdRow.mono (fun b h1 _ => (hok b h1).1) (fun b h1 _ => World.putObj_heap_other (hok b h1).2) _ _ hk, h0.keep hs (fun k hk => World.putObj_heap_other (by omega)), ho.put hD _⟩

set_option maxHeartbeats 4000000 in
set_option maxRecDepth 100000 in
theorem expr_any (C : Ctx) (ex : Nat → Res Nd) (hx : OneT C 109 ex) (f : Nat) (hf : f ≤ 8192) : OneT C 109 (exprO C.ts C.s.size ex f) := by
  intro w p h _ hne
  have hmf : ∀ (fn : Fn) (first cap : Array Value) (w : World), (Instr.makeFunc fn first cap).run Tryz.prog w = .ok (.func fn first cap) w := fun _ _ _ _ => rfl
  have c0 := fun W => allSigns_any W
  have c1 := fun g b c W h => clone_any g b c W h
  have c2 := fun a n c W => back_any a n c W
  refine (callsIn_wide (n := 3)).1 ?_
  refine callsIn_of_wp_marks Tryz.func109 rfl trivial ?_ rfl
  refine wpIn_wide.2 ?_
  simp only [Tryz.ntmps109, List.size_toArray, List.length_cons, List.length_nil, Nat.reduceAdd, Nat.reduceSub, Array.replicate_succ, Array.replicate_zero, List.push_toArray, List.append_toArray, List.nil_append, List.cons_append]
  go_wp2_with fail
  refine (c0 _).mono ?_
  rintro e w1 ⟨g, b, rfl, hb1, hsg, hgw, hcs, hbw⟩
  go_wp2_with fail
  refine (c1 g b 5 _ hcs).mono ?_
  rintro e w2 ⟨b', c', rfl, hb2, hcs2, hbw2⟩
  go_wp2_with fail
  refine (c2 _ _ _ _).mono ?_
  rintro e w3 ⟨rfl, rfl⟩
  clear c0 c1 c2
  go_wp2_with fail
  have s1 : ∀ (W : World) (o : Obj), (W.alloc o).heap.size = W.heap.size + 1 := World.size_alloc
  have hpb := h.lt
  have hB0 : Below w.heap.size w (((w.alloc (.cells #[.pointer (some ⟨C.pb, 0, none⟩)] 94)).alloc zNode).alloc (.cells #[.func (.func 162) #[.pointer (some ⟨C.pb, 0, none⟩)] #[]] 70)) := ((((Below.refl _ w).alloc (Nat.le_refl _) _).alloc (by simp) _).alloc (by simp; omega) _)
  have hsz0 : (((w.alloc (.cells #[.pointer (some ⟨C.pb, 0, none⟩)] 94)).alloc zNode).alloc (.cells #[.func (.func 162) #[.pointer (some ⟨C.pb, 0, none⟩)] #[]] 70)).heap.size = w.heap.size + 1 + 1 + 1 := by rw [s1, s1, s1]
  have x1 : Boxed (((w.alloc (.cells #[.pointer (some ⟨C.pb, 0, none⟩)] 94)).alloc zNode).alloc (.cells #[.func (.func 162) #[.pointer (some ⟨C.pb, 0, none⟩)] #[]] 70)) w.heap.size 94 (.pointer (some ⟨C.pb, 0, none⟩)) := heap_up (heap_up (heap_alloc_new w _))
  have x2 : Box4 (((w.alloc (.cells #[.pointer (some ⟨C.pb, 0, none⟩)] 94)).alloc zNode).alloc (.cells #[.func (.func 162) #[.pointer (some ⟨C.pb, 0, none⟩)] #[]] 70)) (w.heap.size + 1) (.int .i64 0) (.string ⟨#[]⟩) (.slice none 0 0) (.int .i64 0) := heap_up (heap_alloc2_new w _ _)
  have x3 : Boxed (((w.alloc (.cells #[.pointer (some ⟨C.pb, 0, none⟩)] 94)).alloc zNode).alloc (.cells #[.func (.func 162) #[.pointer (some ⟨C.pb, 0, none⟩)] #[]] 70)) (w.heap.size + 1 + 1) 70 (.func (.func 162) #[.pointer (some ⟨C.pb, 0, none⟩)] #[]) := by
    have h9 := Boxed.new ((w.alloc (.cells #[.pointer (some ⟨C.pb, 0, none⟩)] 94)).alloc zNode) 70 (.func (.func 162) #[.pointer (some ⟨C.pb, 0, none⟩)] #[])
    rw [s1, s1] at h9
    exact h9
  obtain ⟨W0, hW0⟩ : ∃ W0, ((w.alloc (.cells #[.pointer (some ⟨C.pb, 0, none⟩)] 94)).alloc zNode).alloc (.cells #[.func (.func 162) #[.pointer (some ⟨C.pb, 0, none⟩)] #[]] 70) = W0 := ⟨_, rfl⟩
  have hb1' : Below W0.heap.size W0 w1 := by rw [← hW0]; exact hb1
  have hgw' : W0.heap.size ≤ g := by rw [← hW0]; exact hgw
  have hbw' : W0.heap.size ≤ b := by rw [← hW0]; exact hbw
  rw [hW0] at hB0 hsz0 x1 x2 x3
  clear hb1 hgw hbw hW0
  have hb3 : Below W0.heap.size W0 (w2.alloc (.cells #[.slice (some ⟨b', 0, none⟩) 5 c'] 182)) := tr hb1' (tr hb2 ((Below.refl _ _).alloc (Nat.le_refl _) _))
  have hbox := Boxed.new w2 182 (.slice (some ⟨b', 0, none⟩) 5 c')
  have hcs3 : ∀ k, k ≤ 4 → (w2.alloc (.cells #[.slice (some ⟨b', 0, none⟩) 5 c'] 182)).cell? ⟨b', k, none⟩ = some (sgV (g + k) k) := fun k hk => al_cell (hcs2 k hk) _
  have hsg3 : SgAll (w2.alloc (.cells #[.slice (some ⟨b', 0, none⟩) 5 c'] 182)) g := hsg.below (tr hb2 ((Below.refl _ _).alloc (Nat.le_refl _) _))
  have hsz3 := s1 w2 (.cells #[.slice (some ⟨b', 0, none⟩) 5 c'] 182)
  have hlb : b' < w2.heap.size := World.block_lt_of_cell? w2 _ (hcs2 0 (by omega))
  obtain ⟨W3, hW3⟩ : ∃ W3, w2.alloc (.cells #[.slice (some ⟨b', 0, none⟩) 5 c'] 182) = W3 := ⟨_, rfl⟩
  rw [hW3] at hb3 hbox hcs3 hsg3 hsz3 ⊢
  have hR0 : Rng C w W3.heap.size p g [] W3 := by
    refine ⟨⟨⟨_, (hb3.block _ x3.lt).trans x3, rfl⟩, (hb3.block _ x1.lt).trans x1, (hb3.block _ x2.lt).trans x2, (h.below hB0).below hb3, hsg3, Nat.le_refl _⟩, tr hB0 hb3⟩
  have hgl : w.heap.size + 1 + 1 < g := by omega
  have H0 := Lib.hid h
  have HGL := Lib.hid hgl
  have dA := hb1'.size
  have eA := hb2.size
  have hzw : w.heap.size ≤ W3.heap.size := hR0.2.size
  clear hcs hcs2 hsg hsg3 x1 x2 x3 hB0 hb1' hb2 hb3 hW3
  refine (wpIn_wide (n := 3)).1 (wpIn_rangeFunc_ownH (F := Fence.wide) (n := 3) rfl (by omega) (gf := 195) (lb := #[.pointer (some ⟨w2.heap.size, 0, none⟩)]) rfl trivial (enters_of Tryz.func195 (by kernel_rfl) rfl)
    (back_stops Fence.wide 2 trivial rfl (by omega) w2.heap.size W3.heap.size (w.heap.size + 1 + 1) b' c' g W3 (by omega) (by omega) (by omega) (by omega) (Nat.le_refl _) hbox.cell hcs3) (fun h k => Kb.trans h k) (fun W l _ o' hl _ _ _ => Kb.put W l o' hl) (Below.refl _ _) (fun _ => rfl)
    (Rng C w W3.heap.size p g) (fun _ _ _ => False) (Rng.own (by have := hR0.2.size; omega)) (fun _ _ _ _ _ hs _ _ => hs) hR0
    (fun x a' W => ∃ bi bl, w.heap.size + 1 + 1 < bi ∧ w.heap.size + 1 + 1 < bl ∧ Boxed W bi 3 (.int .i64 (x : Int)) ∧ Boxed W bl 44 (sgV (g + x) x) ∧ a' = { tmps := #[.pointer (some ⟨C.pb, 0, none⟩), .pointer (some ⟨w.heap.size, 0, none⟩), .pointer (some ⟨w.heap.size + 1, 0, none⟩), .pointer (some ⟨w.heap.size + 1 + 1, 0, none⟩), .pointer (some ⟨bi, 0, none⟩), .pointer (some ⟨bl, 0, none⟩), undef, undef, undef, undef, .pointer (some ⟨C.pb, 0, none⟩), .func (.func 162) #[.pointer (some ⟨C.pb, 0, none⟩)] #[], .slice (some ⟨b, 0, none⟩) 5 5, .slice (some ⟨b', 0, none⟩) 5 c', .func (.func 195) #[] #[.pointer (some ⟨w2.heap.size, 0, none⟩)], .int .i64 (x : Int), sgV (g + x) x, undef, undef, undef, undef, undef, undef, undef, undef, undef, undef, undef, undef, undef, undef, undef, undef, undef, undef, undef, undef, undef, undef], defers := [] })
    (fun x a' _ X Y row hs hg hr => by
      obtain ⟨bi, bl, h1, h2, h3, h4, h5⟩ := hs
      have hc := Cst.of_grown hg (fun r e => (hr r e).2)
      exact ⟨bi, bl, h1, h2, hc _ _ _ _ h3, hc _ _ _ _ h4, h5⟩)
    ?assign ?body ?done ?stop)
  case assign =>
    rintro l pre x W K hI hK
    have hk := hI.2.size
    simp only [sgE, sgV]
    have hw3 : W3.heap.size ≤ W.heap.size := hI.1.2.2.2.2.2
    gi_wp2
    have hc : Cst W ((W.alloc (.cells #[.int .i64 (x : Int)] 3)).alloc (.cells #[.slice (some ⟨g + x, 0, none⟩) (signsK x).length (signsK x).length] 44)) := (Cst.alloc _ _).trans (Cst.alloc _ _)
    have hz : w.heap.size + 1 + 1 < W.heap.size := by
      obtain ⟨⟨⟨_, hv, _⟩, _⟩, _⟩ := hI
      exact hv.lt
    exact hK _ _ (((KeepsOthers.alloc _ _).trans (KeepsOthers.alloc _ _)).from _) (Kb.of_below (((Below.refl _ W).alloc (Nat.le_refl _) _).alloc (by simp) _) hw3) (hI.cst hc (((Below.refl _ _).alloc (Nat.le_refl _) _).alloc (by simp) _)) ⟨W.heap.size, W.heap.size + 1, by omega, by omega, (Boxed.new W _ _).alloc _, by
      have h9 := Boxed.new (W.alloc (.cells #[.int .i64 (x : Int)] 3)) 44 (sgV (g + x) x)
      rw [s1] at h9
      exact h9, rfl⟩
  case body =>
    rintro l pre x a' W hl ⟨r, hr⟩ hI ⟨bi, bl, h1, h2, h3, h4, rfl⟩ hlt
    have hI' := Lib.hid hI
    have hw3 : W3.heap.size ≤ W.heap.size := hI.1.2.2.2.2.2
    obtain ⟨⟨⟨v, hv, hlev⟩, hp1, _, _, _⟩, hbw1⟩ := hI
    obtain ⟨fn, fi, ca, rfl⟩ := lev_func hlev
    have HV := Lib.hid hv
    have H3 := Lib.hid h3
    have H4 := Lib.hid h4
    have cv := hv.cell
    have cv2 := fun o => (hv.alloc o).cell
    have cf := fun o => (hv.alloc o).frozen
    clear hv hlev hp1 h3 h4 hr
    gi_wp2
    exact ⟨((KeepsOthers.alloc _ _).trans (KeepsOthers.setCell _ _ _)).from _, (Kb.of_below ((Below.refl _ W).alloc (Nat.le_refl _) _) hw3).set 0 _, Rng.next hI'.out HV.out H3.out H4.out h1 h2 H0.out HGL.out⟩
  case done =>
    rintro D xs W hD rfl hI hK
    obtain ⟨⟨⟨v, hv, hlev⟩, hp1, hz1, hs1, hg1, hw3⟩, hbw1⟩ := hI
    obtain ⟨F, first, cap, rfl, eg, hone⟩ := lev_one (by omega) hp1 (by omega) hg1 (by omega) ex f hf (unary_any C ex hx f hf f) 5 _ v (by omega) rfl hlev
    have cv := hv.cell
    have hDW : D < W.heap.size := (Array.getElem?_eq_some_iff.1 hK).1
    have hDw : w.heap.size ≤ D := by omega
    have hDne : D ≠ C.pb := by omega
    have hpx : w.heap.size ≠ C.pb := by omega
    have hzx : w.heap.size + 1 ≠ C.pb := by omega
    have HO := Lib.hid (Ow.of_below (b := C.pb) hbw1)
    have hWw := hbw1.size
    obtain ⟨R, hR⟩ : ∃ R, exprO C.ts C.s.size ex f p = R := ⟨_, rfl⟩
    have E : Hid (R = (levO C.ts C.s.size ex f 5 p).bind fun x q => if isT C.ts q [63] then (ex (q + 1)).bind fun y r => (takeP C.ts C.s.size [58] r).bind fun _ r' => (ex r').bind fun z e => .ok (.mk 15 [] [x, y, z] (placeT C.ts C.s.size q)) e else .ok x q) := hR.symm
    have HRR := Lib.hid hR
    rw [hR] at hne
    have HNE := Lib.hid hne
    have hx0 : levO C.ts C.s.size ex f 5 p ≠ .out := fun e => HNE.out (by rw [E.out, e]; rfl)
    have KX : ∀ w', Ow C.pb W w' → BoxX w' (w.heap.size + 1) (.int .i64 0) (.string ⟨#[]⟩) (.slice none 0 0) (.int .i64 0) ∧ w'.cell? ⟨w.heap.size, 0, none⟩ = some (.pointer (some ⟨C.pb, 0, none⟩)) ∧ w'.heap[D]? = some (.deferred (some [])) := fun w' ho =>
      ⟨hz1.x ho hzx, ho.cell (p := ⟨w.heap.size, 0, none⟩) hpx hp1.cell, (ho.block D hDW hDne).trans hK⟩
    have HKX := Lib.hid KX
    have HHX := Lib.hid hx
    have c1 := node_x (hone W p hs1 (Ow.refl _ _) hx0) _ KX
    clear hR hne h hx hv hlev hp1 hz1 hs1 hg1 hbw1 hone hx0 KX hR0 hbox hcs3
    go_wp2_with fail
    refine c1.mono ?_
    clear c1
    rintro e w4 (⟨k, n, kids, pp, y, c, q, hr1, rfl, hk1, hs4, ho4, ⟨⟨z0, z1, z2, z3, zf⟩, HZ⟩, pc, hD4⟩ | ⟨q, hr1, b9, hd1, rfl, hd3, hd4⟩)
    · have HR1 := Lib.hid hr1
      have hz4 := ho4.size
      have hne4 : w4.heap.size ≠ C.pb := by omega
      have hs5 : PSt C (w4.alloc (.cells #[.int .i64 k, .string ⟨n.toArray⟩, .slice y kids.length c, .int .i64 pp] 53)) q := hs4.below ((Below.refl _ _).alloc (Nat.le_refl _) _)
      have hk5 : NdRow (w4.alloc (.cells #[.int .i64 k, .string ⟨n.toArray⟩, .slice y kids.length c, .int .i64 pp] 53)) (fun b => W.heap.size ≤ b ∧ b < w4.heap.size) kids y := NdRow.mono (fun b h1 h2 => ⟨h1, h2⟩) (fun b _ h2 => Below.heap_alloc _ _ b h2) _ _ hk1
      have hoW5 : Ow C.pb W (w4.alloc (.cells #[.int .i64 k, .string ⟨n.toArray⟩, .slice y kids.length c, .int .i64 pp] 53)) := ho4.alloc _
      have K5 : ∀ w', Ow C.pb (w4.alloc (.cells #[.int .i64 k, .string ⟨n.toArray⟩, .slice y kids.length c, .int .i64 pp] 53)) w' → (BoxX w' (w.heap.size + 1) (.int .i64 0) (.string ⟨#[]⟩) (.slice none 0 0) (.int .i64 0) ∧ w'.cell? ⟨w.heap.size, 0, none⟩ = some (.pointer (some ⟨C.pb, 0, none⟩)) ∧ w'.heap[D]? = some (.deferred (some []))) ∧ BoxX w' w4.heap.size (.int .i64 k) (.string ⟨n.toArray⟩) (.slice y kids.length c) (.int .i64 pp) ∧ Hid (NdRow w' (fun b => W.heap.size ≤ b ∧ b < w4.heap.size) kids y) := fun w' ho =>
        ⟨HKX.out w' (hoW5.trans ho), (Box4.new w4 _ _ _ _).x ho hne4, hk5.ow ho (fun b hb => by omega)⟩
      have HK5 := Lib.hid K5
      have c2 := is_x C q [63] _ hs5 _ K5
      have HO5 : Hid (Ow C.pb W (w4.alloc (.cells #[.int .i64 k, .string ⟨n.toArray⟩, .slice y kids.length c, .int .i64 pp] 53))) := hoW5
      have pc2 := fun o => al_cell pc o
      clear hr1 hk1 hs4 ho4 z0 z1 z2 z3 zf HZ pc hD4 hs5 hk5 hoW5 K5
      go_wp2_with fail
      refine c2.mono ?_
      clear c2 pc2
      rintro e w6 (⟨hB, rfl, hs6, ho6, ⟨⟨⟨z0, z1, z2, z3, zf⟩, HZ⟩, pc, hD6⟩, ⟨⟨x0, x1, x2, x3, xf⟩, HX⟩, HK6⟩ | ⟨hB, rfl, hs6, ho6, ⟨⟨⟨z0, z1, z2, z3, zf⟩, HZ⟩, pc, hD6⟩, ⟨⟨x0, x1, x2, x3, xf⟩, HX⟩, HK6⟩)
      · obtain ⟨pq, hpq⟩ : ∃ pq, placeT C.ts C.s.size q = pq := ⟨_, rfl⟩
        have E2 : Hid (R = (ex (q + 1)).bind fun y r => (takeP C.ts C.s.size [58] r).bind fun _ r' => (ex r').bind fun z e => .ok (.mk 15 [] [.mk k n kids pp, y, z] pq) e) := by
          show R = _
          rw [E.out, HR1.out]
          simp only [Res.bind]
          rw [hB, hpq]
          rfl
        have c3 := take_x C q [63] w6 hs6 _ (fun w' ho' => HK5.out w' (ho6.trans ho'))
        rw [hpq] at c3
        have HBt := Lib.hid hB
        have HO6 := Lib.hid (HO5.out.trans ho6)
        have fA := Lib.hid ho6
        clear hB hs6 ho6 z0 z1 z2 z3 zf HZ hD6 x0 x1 x2 x3 xf HX HK6 hpq
        go_wp2_with fail
        refine c3.mono ?_
        clear c3 pc
        rintro e w7 (⟨q7, hr7, rfl, hs7, ho7, ⟨⟨⟨z0, z1, z2, z3, zf⟩, HZ⟩, pc, hD7⟩, ⟨⟨x0, x1, x2, x3, xf⟩, HX⟩, HK7⟩ | ⟨hr7, b9, hd1, rfl, hd3, hd4⟩)
        · obtain rfl : q7 = q + 1 := by
            unfold takeP at hr7
            rw [HBt.out] at hr7
            simp at hr7
            omega
          have hz7 := ho7.size
          have HO7 := Lib.hid (HO6.out.trans ho7)
          have hz7' := HO7.out.size
          have bA := HX.out.lt
          have hne7 : w7.heap.size ≠ C.pb := by omega
          have hs8 : PSt C (w7.alloc (.cells #[.int .i64 15, .string ⟨#[]⟩, .slice none 0 0, .int .i64 pq] 53)) (q + 1) := hs7.below ((Below.refl _ _).alloc (Nat.le_refl _) _)
          have hoW8 : Ow C.pb W (w7.alloc (.cells #[.int .i64 15, .string ⟨#[]⟩, .slice none 0 0, .int .i64 pq] 53)) := HO7.out.alloc _
          have K8 : ∀ w', Ow C.pb (w7.alloc (.cells #[.int .i64 15, .string ⟨#[]⟩, .slice none 0 0, .int .i64 pq] 53)) w' → (BoxX w' (w.heap.size + 1) (.int .i64 0) (.string ⟨#[]⟩) (.slice none 0 0) (.int .i64 0) ∧ w'.cell? ⟨w.heap.size, 0, none⟩ = some (.pointer (some ⟨C.pb, 0, none⟩)) ∧ w'.heap[D]? = some (.deferred (some []))) ∧ BoxX w' w4.heap.size (.int .i64 k) (.string ⟨n.toArray⟩) (.slice y kids.length c) (.int .i64 pp) ∧ Hid (NdRow w' (fun b => W.heap.size ≤ b ∧ b < w4.heap.size) kids y) ∧ BoxX w' w7.heap.size (.int .i64 15) (.string ⟨#[]⟩) (.slice none 0 0) (.int .i64 pq) := fun w' ho =>
            ⟨HKX.out w' (hoW8.trans ho), (HX.out.alloc _).x ho hne4, ((HK7.out.alloc _).ow ho (fun b hb => by omega)), (Box4.new w7 _ _ _ _).x ho hne7⟩
          have hx1 : ex (q + 1) ≠ .out := fun e => HNE.out (by rw [E2.out, e]; rfl)
          have c4 := node_x (HHX.out _ (q + 1) hs8 trivial hx1) _ K8
          have HK8 := Lib.hid K8
          have HO8 : Hid (Ow C.pb W (w7.alloc (.cells #[.int .i64 15, .string ⟨#[]⟩, .slice none 0 0, .int .i64 pq] 53))) := hoW8
          have pc2 := fun o => al_cell pc o
          clear hr7 hs7 ho7 z0 z1 z2 z3 zf HZ pc hD7 x0 x1 x2 x3 xf HX HK7 hs8 hoW8 K8 hx1
          go_wp2_with fail
          refine c4.mono ?_
          clear c4 pc2
          rintro e w9 (⟨k2, n2, kids2, pp2, y2, c2, q9, hr9, rfl, hk9, hs9, ho9, ⟨⟨⟨z0, z1, z2, z3, zf⟩, HZ⟩, pc, hD9⟩, ⟨⟨x0, x1, x2, x3, xf⟩, HX⟩, HK9, ⟨n0, n1, n20, n3, nf⟩, HN⟩ | ⟨q9, hr9, b9, hd1, rfl, hd3, hd4⟩)
          · have HR9 := Lib.hid hr9
            have hz9 := ho9.size
            rw [s1] at hz9
            have HO9 := Lib.hid (HO8.out.trans ho9)
            have hne9 : w9.heap.size ≠ C.pb := by omega
            have MA : PSt C (w9.alloc (.cells #[.int .i64 k2, .string ⟨n2.toArray⟩, .slice y2 kids2.length c2, .int .i64 pp2] 53)) q9 := hs9.below ((Below.refl _ _).alloc (Nat.le_refl _) _)
            have NA : NdRow (w9.alloc (.cells #[.int .i64 k2, .string ⟨n2.toArray⟩, .slice y2 kids2.length c2, .int .i64 pp2] 53)) (fun b => w7.heap.size < b ∧ b < w9.heap.size) kids2 y2 := NdRow.mono (fun b h1 h2 => by rw [s1] at h1; omega) (fun b _ h2 => Below.heap_alloc _ _ b h2) _ _ hk9
            have OA : Ow C.pb (w7.alloc (.cells #[.int .i64 15, .string ⟨#[]⟩, .slice none 0 0, .int .i64 pq] 53)) (w9.alloc (.cells #[.int .i64 k2, .string ⟨n2.toArray⟩, .slice y2 kids2.length c2, .int .i64 pp2] 53)) := ho9.alloc _
            have K10 : ∀ w', Ow C.pb (w9.alloc (.cells #[.int .i64 k2, .string ⟨n2.toArray⟩, .slice y2 kids2.length c2, .int .i64 pp2] 53)) w' → ((BoxX w' (w.heap.size + 1) (.int .i64 0) (.string ⟨#[]⟩) (.slice none 0 0) (.int .i64 0) ∧ w'.cell? ⟨w.heap.size, 0, none⟩ = some (.pointer (some ⟨C.pb, 0, none⟩)) ∧ w'.heap[D]? = some (.deferred (some []))) ∧ BoxX w' w4.heap.size (.int .i64 k) (.string ⟨n.toArray⟩) (.slice y kids.length c) (.int .i64 pp) ∧ Hid (NdRow w' (fun b => W.heap.size ≤ b ∧ b < w4.heap.size) kids y) ∧ BoxX w' w7.heap.size (.int .i64 15) (.string ⟨#[]⟩) (.slice none 0 0) (.int .i64 pq)) ∧ BoxX w' w9.heap.size (.int .i64 k2) (.string ⟨n2.toArray⟩) (.slice y2 kids2.length c2) (.int .i64 pp2) ∧ Hid (NdRow w' (fun b => w7.heap.size < b ∧ b < w9.heap.size) kids2 y2) := fun w' ho =>
              ⟨HK8.out w' (OA.trans ho), (Box4.new w9 _ _ _ _).x ho hne9, NA.ow ho (fun b hb => by omega)⟩
            have c5 := take_x C q9 [58] _ MA _ K10
            have WA := Lib.hid K10
            have BA : Hid (Ow C.pb W (w9.alloc (.cells #[.int .i64 k2, .string ⟨n2.toArray⟩, .slice y2 kids2.length c2, .int .i64 pp2] 53))) := HO9.out.alloc _
            have pc2 := fun o => al_cell pc o
            clear hr9 hk9 hs9 ho9 z0 z1 z2 z3 zf HZ pc hD9 x0 x1 x2 x3 xf HX HK9 n0 n1 n20 n3 nf HN MA NA OA K10
            go_wp2_with fail
            refine c5.mono ?_
            clear c5 pc2
            rintro e w11 (⟨q11, AA, rfl, GA, CA, ⟨⟨⟨⟨z0, z1, z2, z3, zf⟩, HZ⟩, pc, XA⟩, ⟨⟨x0, x1, x2, x3, xf⟩, HX⟩, HKx, ⟨n0, n1, n20, n3, nf⟩, HN⟩, ⟨⟨u0, u1, u2, u3, uf⟩, HU⟩, HKu⟩ | ⟨AA, b9, hd1, rfl, hd3, hd4⟩)
            · have HA := Lib.hid AA
              have PA := Lib.hid (BA.out.trans CA)
              have hlx := HX.out.lt
              have hlu := HU.out.lt
              have hln := HN.out.lt
              have hz4 := PA.out.size
              have IA : PSt C w11.drew q11 := GA.below (Below.refl _ _).drew
              have JA : Ow C.pb (w9.alloc (.cells #[.int .i64 k2, .string ⟨n2.toArray⟩, .slice y2 kids2.length c2, .int .i64 pp2] 53)) w11.drew := CA.drew
              have hx2 : ex q11 ≠ .out := fun e => HNE.out (by rw [E2.out, HR9.out]; simp only [Res.bind]; rw [HA.out]; simp only; rw [e])
              have c6 := HHX.out _ q11 IA trivial hx2
              have gA : Ld w4.heap.size (.int .i64 k) (.string ⟨n.toArray⟩) (.slice y kids.length c) (.int .i64 pp) w9.heap.size (.int .i64 k2) (.string ⟨n2.toArray⟩) (.slice y2 kids2.length c2) (.int .i64 pp2) w.heap.size (.pointer (some ⟨C.pb, 0, none⟩)) w11.drew := Ld.of (w' := w11.drew) HX.out HU.out pc
              have DA : Hid (Ow C.pb W w11.drew) := PA.out.drew
              cases hres : ex q11 with
              | out => exact absurd hres hx2
              | bad q13 =>
                have c7 := node_bad c6 hres
                have HRES := Lib.hid hres
                clear AA GA CA IA JA hx2 c6 hres
                go_wp2_with fail
                go_region_dies
                all_goals (
                  refine c7.mono ?_
                  rintro e w13 ⟨b9, hd1, rfl, hd3, hd4⟩
                  refine leave_panic rfl (HKX.out _ (DA.out.trans hd4)).2.2 (.inr ⟨q13, ?_, dead_put hDw hDW HO.out (Nat.le_trans DA.out.size hd1) hd3 (DA.out.trans hd4)⟩)
                  rw [HRR.out, E2.out, HR9.out]
                  simp only [Res.bind]
                  rw [HA.out]
                  simp only
                  rw [HRES.out])
              | ok nd q13 =>
                obtain ⟨k3, n3', kids3, pp3⟩ := nd
                have K13 : ∀ w', Ow C.pb w11.drew w' → Ld w4.heap.size (.int .i64 k) (.string ⟨n.toArray⟩) (.slice y kids.length c) (.int .i64 pp) w9.heap.size (.int .i64 k2) (.string ⟨n2.toArray⟩) (.slice y2 kids2.length c2) (.int .i64 pp2) w.heap.size (.pointer (some ⟨C.pb, 0, none⟩)) w' ∧ (∀ o, Ld w4.heap.size (.int .i64 k) (.string ⟨n.toArray⟩) (.slice y kids.length c) (.int .i64 pp) w9.heap.size (.int .i64 k2) (.string ⟨n2.toArray⟩) (.slice y2 kids2.length c2) (.int .i64 pp2) w.heap.size (.pointer (some ⟨C.pb, 0, none⟩)) (w'.alloc o)) ∧ (∀ o v, Ld w4.heap.size (.int .i64 k) (.string ⟨n.toArray⟩) (.slice y kids.length c) (.int .i64 pp) w9.heap.size (.int .i64 k2) (.string ⟨n2.toArray⟩) (.slice y2 kids2.length c2) (.int .i64 pp2) w.heap.size (.pointer (some ⟨C.pb, 0, none⟩)) ((w'.alloc o).setCell ⟨w7.heap.size, 2, none⟩ v)) ∧ (((BoxX w' (w.heap.size + 1) (.int .i64 0) (.string ⟨#[]⟩) (.slice none 0 0) (.int .i64 0) ∧ w'.cell? ⟨w.heap.size, 0, none⟩ = some (.pointer (some ⟨C.pb, 0, none⟩)) ∧ w'.heap[D]? = some (.deferred (some []))) ∧ BoxX w' w4.heap.size (.int .i64 k) (.string ⟨n.toArray⟩) (.slice y kids.length c) (.int .i64 pp) ∧ Hid (NdRow w' (fun b => W.heap.size ≤ b ∧ b < w4.heap.size) kids y) ∧ BoxX w' w7.heap.size (.int .i64 15) (.string ⟨#[]⟩) (.slice none 0 0) (.int .i64 pq)) ∧ BoxX w' w9.heap.size (.int .i64 k2) (.string ⟨n2.toArray⟩) (.slice y2 kids2.length c2) (.int .i64 pp2) ∧ Hid (NdRow w' (fun b => w7.heap.size < b ∧ b < w9.heap.size) kids2 y2)) := fun w' ho => by
                  have h1 := WA.out w' (JA.trans ho)
                  have hx' := h1.1.2.1.2.out
                  have hu' := h1.2.1.2.out
                  have hp' := h1.1.1.2.1
                  refine ⟨Ld.of hx' hu' hp', fun o => Ld.of (hx'.alloc o) (hu'.alloc o) (al_cell hp' o), fun o v => Ld.of ((hx'.alloc o).other (by omega)) ((hu'.alloc o).other (by omega)) ?_, h1⟩
                  exact (World.cell?_of_block (Below.heap_setCell _ _ _ _ (show w.heap.size ≠ w7.heap.size by omega))).trans (al_cell hp' o)
                have c7 := node_ok c6 hres _ K13
                have HRES := Lib.hid hres
                clear AA GA CA IA JA hx2 c6 hres K13 z0 z1 z2 z3 zf HZ x0 x1 x2 x3 xf HX n0 n1 n20 n3 nf HN u0 u1 u2 u3 uf HU HKx HKu XA
                go_wp2_with fail
                go_region_held3 (fun w' => w'.cell? ⟨w4.heap.size, 0, none⟩ = some (.int .i64 k) ∧ w'.cell? ⟨w4.heap.size, 1, none⟩ = some (.string ⟨n.toArray⟩) ∧ w'.cell? ⟨w4.heap.size, 2, none⟩ = some (.slice y kids.length c) ∧ w'.cell? ⟨w4.heap.size, 3, none⟩ = some (.int .i64 pp) ∧ w'.cell? ⟨w9.heap.size, 0, none⟩ = some (.int .i64 k2) ∧ w'.cell? ⟨w9.heap.size, 1, none⟩ = some (.string ⟨n2.toArray⟩) ∧ w'.cell? ⟨w9.heap.size, 2, none⟩ = some (.slice y2 kids2.length c2) ∧ w'.cell? ⟨w9.heap.size, 3, none⟩ = some (.int .i64 pp2) ∧ w'.cell? ⟨w.heap.size, 0, none⟩ = some (.pointer (some ⟨C.pb, 0, none⟩))) (first | with_reducible assumption | with_reducible exact EA _ | with_reducible exact FA _ _) (first | (go_at_call 109; (with_reducible refine c7.mono ?_); rintro e w13 ⟨y3, c3, rfl, QA, RA, KA, YA, EA, FA, ⟨⟨⟨⟨z0, z1, z2, z3, zf⟩, HZ⟩, pc3, LA⟩, ⟨_, HX⟩, HKx, ⟨⟨n0, n1, n20, n3, nf⟩, HN⟩⟩, ⟨_, HU⟩, HKu⟩; have l2 := fun o => al_cell n20 o; have lf := fun ob o => ((HN.out.alloc ob).facts).2.2.2.2 o))
                all_goals (
                  have ZA := HRES.out
                  have SA := KA.size
                  have aA := Lib.hid (DA.out.trans KA)
                  have cA : w9.heap.size < w13.heap.size := Nat.lt_of_lt_of_le hlu SA
                  have hnz : w7.heap.size < w13.heap.size := Nat.lt_of_lt_of_le hln SA
                  have d1 : w.heap.size + 1 ≠ w7.heap.size := by omega
                  have d2 : w7.heap.size ≠ w.heap.size + 1 := by omega
                  have d3 : D ≠ w7.heap.size := by omega
                  have d4 : D ≠ w.heap.size + 1 := by
                    intro e
                    have h9 := HZ.out
                    unfold Box4 at h9
                    rw [← e, LA] at h9
                    cases h9
                  have HRW : Hid (NdRow ((w13.alloc (.cells #[.int .i64 k, .string ⟨n.toArray⟩, .slice y kids.length c, .int .i64 pp, .int .i64 k2, .string ⟨n2.toArray⟩, .slice y2 kids2.length c2, .int .i64 pp2, .int .i64 k3, .string ⟨n3'.toArray⟩, .slice y3 kids3.length c3, .int .i64 pp3] 53)).setCell ⟨w7.heap.size, 2, none⟩ (.slice (some ⟨w13.heap.size, 0, none⟩) 3 3)) (fun i => W.heap.size ≤ i ∧ i ≠ w7.heap.size) [.mk k n kids pp, .mk k2 n2 kids2 pp2, .mk k3 n3' kids3 pp3] (some ⟨w13.heap.size, 0, none⟩)) :=
                    (NdRow.buildK (ok := fun i => W.heap.size ≤ i ∧ i ≠ w7.heap.size) ⟨by omega, by omega⟩ (NFlat.three ((HKx.out.wide (fun i hi _ => by omega)).cells (k := k) (n := n) (p := pp) (c := c)) ((HKu.out.wide (fun i hi _ => by omega)).cells (k := k2) (n := n2) (p := pp2) (c := c2)) ((QA.wide (fun i hi _ => ⟨Nat.le_trans hz4 hi, by have h9 := Nat.lt_of_lt_of_le hln hi; omega⟩)).cells (k := k3) (n := n3') (p := pp3) (c := c3)))).set (fun i hi => hi.2)
                  have TA : Hid (PSt C ((w13.alloc (.cells #[.int .i64 k, .string ⟨n.toArray⟩, .slice y kids.length c, .int .i64 pp, .int .i64 k2, .string ⟨n2.toArray⟩, .slice y2 kids2.length c2, .int .i64 pp2, .int .i64 k3, .string ⟨n3'.toArray⟩, .slice y3 kids3.length c3, .int .i64 pp3] 53)).setCell ⟨w7.heap.size, 2, none⟩ (.slice (some ⟨w13.heap.size, 0, none⟩) 3 3)) q13) := H0.out.keep RA (((Kp.refl _ _).alloc (by omega) (.cells #[.int .i64 k, .string ⟨n.toArray⟩, .slice y kids.length c, .int .i64 pp, .int .i64 k2, .string ⟨n2.toArray⟩, .slice y2 kids2.length c2, .int .i64 pp2, .int .i64 k3, .string ⟨n3'.toArray⟩, .slice y3 kids3.length c3, .int .i64 pp3] 53)).set (k := w7.heap.size) (o := 2) (v := .slice (some ⟨w13.heap.size, 0, none⟩) 3 3) (by omega))
                  obtain ⟨z0', z1', z2', z3', zf'⟩ := Box4.facts (Box4.other (k := w7.heap.size) (o := 2) (v := .slice (some ⟨w13.heap.size, 0, none⟩) 3 3) (HZ.out.alloc (.cells #[.int .i64 k, .string ⟨n.toArray⟩, .slice y kids.length c, .int .i64 pp, .int .i64 k2, .string ⟨n2.toArray⟩, .slice y2 kids2.length c2, .int .i64 pp2, .int .i64 k3, .string ⟨n3'.toArray⟩, .slice y3 kids3.length c3, .int .i64 pp3] 53)) d1)
                  obtain ⟨n0', n1', n2', n3x, nf'⟩ := Box4.facts (Box4.set2 (v := .slice (some ⟨w13.heap.size, 0, none⟩) 3 3) (HN.out.alloc (.cells #[.int .i64 k, .string ⟨n.toArray⟩, .slice y kids.length c, .int .i64 pp, .int .i64 k2, .string ⟨n2.toArray⟩, .slice y2 kids2.length c2, .int .i64 pp2, .int .i64 k3, .string ⟨n3'.toArray⟩, .slice y3 kids3.length c3, .int .i64 pp3] 53)))
                  have UA : Hid (((w13.alloc (.cells #[.int .i64 k, .string ⟨n.toArray⟩, .slice y kids.length c, .int .i64 pp, .int .i64 k2, .string ⟨n2.toArray⟩, .slice y2 kids2.length c2, .int .i64 pp2, .int .i64 k3, .string ⟨n3'.toArray⟩, .slice y3 kids3.length c3, .int .i64 pp3] 53)).setCell ⟨w7.heap.size, 2, none⟩ (.slice (some ⟨w13.heap.size, 0, none⟩) 3 3)).heap[D]? = some (.deferred (some []))) := (Below.heap_setCell _ _ _ D d3).trans (heap_up LA)
                  have VA : Hid (Ow C.pb w ((w13.alloc (.cells #[.int .i64 k, .string ⟨n.toArray⟩, .slice y kids.length c, .int .i64 pp, .int .i64 k2, .string ⟨n2.toArray⟩, .slice y2 kids2.length c2, .int .i64 pp2, .int .i64 k3, .string ⟨n3'.toArray⟩, .slice y3 kids3.length c3, .int .i64 pp3] 53)).setCell ⟨w7.heap.size, 2, none⟩ (.slice (some ⟨w13.heap.size, 0, none⟩) 3 3))) := ((HO.out.trans aA.out).alloc (.cells #[.int .i64 k, .string ⟨n.toArray⟩, .slice y kids.length c, .int .i64 pp, .int .i64 k2, .string ⟨n2.toArray⟩, .slice y2 kids2.length c2, .int .i64 pp2, .int .i64 k3, .string ⟨n3'.toArray⟩, .slice y3 kids3.length c3, .int .i64 pp3] 53)).set (by omega)
                  obtain ⟨W8, hW8⟩ : ∃ W8, (w13.alloc (.cells #[.int .i64 k, .string ⟨n.toArray⟩, .slice y kids.length c, .int .i64 pp, .int .i64 k2, .string ⟨n2.toArray⟩, .slice y2 kids2.length c2, .int .i64 pp2, .int .i64 k3, .string ⟨n3'.toArray⟩, .slice y3 kids3.length c3, .int .i64 pp3] 53)).setCell ⟨w7.heap.size, 2, none⟩ (.slice (some ⟨w13.heap.size, 0, none⟩) 3 3) = W8 := ⟨_, rfl⟩
                  rw [hW8] at HRW TA z0' z1' z2' z3' n0' n1' n2' n3x UA VA ⊢
                  simp only [hW8] at zf' nf'
                  clear hW8 QA RA KA HKx HKu HX HU HZ HN z0 z1 z2 z3 zf n0 n1 n20 n3 nf l2 lf YA EA FA LA pc3 c7 ZA
                  go_wp2_with fail
                  refine leave_ret rfl rfl rfl (heap_set4 UA.out d4) (by simp [go_sem, z0']) (by simp [go_sem, z1']) (by simp [go_sem, z2']) (by simp [go_sem, z3'])
                    (ret_put (k := 15) (n := []) (kids := [.mk k n kids pp, .mk k2 n2 kids2 pp2, .mk k3 n3' kids3 pp3]) (pp := pq) (y := some ⟨w13.heap.size, 0, none⟩) (c := ⟨3, Nat.le_refl _⟩) (q := q13) H0.out hDw ?_ (HRW.out.set4 (fun i hi => by omega)) (fun i hi => by omega) (H0.out.keep TA.out ((Kp.refl _ _).set4 (by omega))) (VA.out.set4 (by omega)))
                  rw [HRR.out, E2.out, HR9.out]
                  simp only [Res.bind]
                  rw [HA.out]
                  simp only
                  rw [HRES.out])
            · refine leave_panic rfl (HKX.out _ (BA.out.trans hd4)).2.2 (.inr ⟨q9, ?_, dead_put hDw hDW HO.out (Nat.le_trans BA.out.size hd1) hd3 (BA.out.trans hd4)⟩)
              rw [HRR.out, E2.out, HR9.out]
              simp only [Res.bind]
              rw [AA]
          · refine leave_panic rfl (HKX.out _ (HO8.out.trans hd4)).2.2 (.inr ⟨q9, ?_, dead_put hDw hDW HO.out (Nat.le_trans HO8.out.size hd1) hd3 (HO8.out.trans hd4)⟩)
            rw [HRR.out, E2.out, hr9]
            rfl
        · exfalso
          unfold takeP at hr7
          rw [HBt.out] at hr7
          simp at hr7
      · have HB := Lib.hid hB
        have hz6 := ho6.size
        rw [s1] at hz6
        have HD6 := Lib.hid hD6
        clear hB hD6
        go_wp2_with fail
        refine leave_ret rfl rfl rfl (heap_set4 HD6.out (by omega)) (by simp [go_sem, z0]) (by simp [go_sem, z1]) (by simp [go_sem, z2]) (by simp [go_sem, z3])
          (ret_put (k := k) (n := n) (kids := kids) (pp := pp) (y := y) (c := c) (q := q) H0.out hDw ?_ (HK6.out.set4 (fun b hb => by omega)) (fun b hb => by omega) (H0.out.keep hs6 ((Kp.refl _ _).set4 (by omega))) (((HO.out.trans HO5.out).trans ho6).set4 (by omega)))
        rw [HRR.out, E.out, HR1.out]
        simp only [Res.bind]
        rw [HB.out]
        rfl
    · refine leave_panic rfl (HKX.out _ hd4).2.2 (.inr ⟨q, ?_, dead_put hDw hDW HO.out hd1 hd3 hd4⟩)
      rw [HRR.out, E.out, hr1]
      rfl
  case stop =>
    rintro D c pre W _ _ h _
    exact h.elim
end Go.Proofs.YtpbkeamjdolpgaaGreatDoor
