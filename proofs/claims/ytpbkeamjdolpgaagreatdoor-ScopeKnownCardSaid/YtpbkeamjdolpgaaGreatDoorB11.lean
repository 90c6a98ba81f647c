/- The walk of a level of signs of two. -/
import Derived.Test.YtpbkeamjdolpgaaGreatDoorB04
import Derived.Deep.RegionWith
import Derived.Deep.CutRange
import Derived.Deep.RegionHeld3
import Derived.RegionDies
namespace Go.Proofs.YtpbkeamjdolpgaaGreatDoor
open Go.RowKit Go.Lib Go.Shelf

theorem levelM_step {C : Ctx} {tight : Nat → Res Nd} {k g q : Nat} {x : Nd} (hB : anyT C.ts q (signsK k) = true) : levelM C.ts C.s.size tight k (g + 1) x q = (tight (q + 1)).bind fun y r =>
      (if k = 2 then .ok (.mk 12 (textT C.ts q) [x, y] (placeT C.ts C.s.size q)) r else levelM C.ts C.s.size tight k g (.mk 12 (textT C.ts q) [x, y] (placeT C.ts C.s.size q)) r) := by
  rw [levelM, hB]
  rfl
theorem levelM_end {C : Ctx} {tight : Nat → Res Nd} {k g q : Nat} {x : Nd} (hB : anyT C.ts q (signsK k) = false) : levelM C.ts C.s.size tight k (g + 1) x q = .ok x q := by
  rw [levelM, hB]
  rfl
/-- What a level's closure has captured. -/
structure Cap (C : Ctx) (bt bl bp bk : Nat) (F : Nat) (first cap : Array Value) (g c k : Nat) (w : World) : Prop where
  t : w.cell? ⟨bt, 0, none⟩ = some (.func (.func F) first cap)
  l : w.cell? ⟨bl, 0, none⟩ = some (.slice (some ⟨g, 0, none⟩) (signsK k).length c)
  p : w.cell? ⟨bp, 0, none⟩ = some (.pointer (some ⟨C.pb, 0, none⟩))
  ki : w.cell? ⟨bk, 0, none⟩ = some (.int .i64 k)
  row : StrRow w g 0 (signsK k)
  ne : bt ≠ C.pb ∧ bl ≠ C.pb ∧ bp ≠ C.pb ∧ bk ≠ C.pb ∧ g ≠ C.pb
theorem StrRow.ow {w w' : World} {b g o : Nat} {l : List (List UInt8)} (h : StrRow w g o l) (ho : Ow b w w') (hn : g ≠ b) : StrRow w' g o l := fun j u hj => ho.cell (p := ⟨g, o + j, none⟩) hn (h j u hj)
theorem Cap.ow {C : Ctx} {bt bl bp bk F : Nat} {first cap : Array Value} {g c k : Nat} {w w' : World} (h : Cap C bt bl bp bk F first cap g c k w) (ho : Ow C.pb w w') : Cap C bt bl bp bk F first cap g c k w' :=
  ⟨ho.cell (p := ⟨bt, 0, none⟩) h.ne.1 h.t, ho.cell (p := ⟨bl, 0, none⟩) h.ne.2.1 h.l, ho.cell (p := ⟨bp, 0, none⟩) h.ne.2.2.1 h.p, ho.cell (p := ⟨bk, 0, none⟩) h.ne.2.2.2.1 h.ki, h.row.ow ho h.ne.2.2.2.2, h.ne⟩
/-- The four variables, in a later world. -/
def CapF (C : Ctx) (bt bl bp bk : Nat) (F : Nat) (first cap : Array Value) (g n c k : Nat) (w : World) : Prop :=
  w.cell? ⟨bt, 0, none⟩ = some (.func (.func F) first cap) ∧ w.cell? ⟨bl, 0, none⟩ = some (.slice (some ⟨g, 0, none⟩) n c) ∧ w.cell? ⟨bp, 0, none⟩ = some (.pointer (some ⟨C.pb, 0, none⟩)) ∧ w.cell? ⟨bk, 0, none⟩ = some (.int .i64 k)
theorem Cap.f {C : Ctx} {bt bl bp bk F : Nat} {first cap : Array Value} {g c k n : Nat} {w w' : World} (h : Cap C bt bl bp bk F first cap g c k w) (ho : Ow C.pb w w') (hn : (signsK k).length = n) : CapF C bt bl bp bk F first cap g n c k w' := by
  have h' := h.ow ho
  exact ⟨h'.t, by rw [← hn]; exact h'.l, h'.p, h'.ki⟩
theorem signsK_len (k : Nat) : (signsK k).length ≤ 6 := by
  unfold signsK
  split
  · decide
  · split
    · decide
    · split
      · decide
      · split <;> decide

theorem Box4.newOw {C : Ctx} {w5 w6 : World} {q : Nat} {v0 v1 v2 v3 : Value} (hs : PSt C w5 q) (ho : Ow C.pb (w5.alloc (.cells #[v0, v1, v2, v3] 53)) w6) : Box4 w6 w5.heap.size v0 v1 v2 v3 ∧ w5.heap.size ≠ C.pb := ⟨(Box4.new w5 _ _ _ _).ow ho (Nat.ne_of_gt hs.lt), Nat.ne_of_gt hs.lt⟩
theorem Box4.newOwD {C : Ctx} {w5 w6 : World} {q : Nat} {v0 v1 v2 v3 : Value} (hs : PSt C w5 q) (ho : Ow C.pb (w5.alloc (.cells #[v0, v1, v2, v3] 53)).drew w6) : Box4 w6 w5.heap.size v0 v1 v2 v3 ∧ w5.heap.size ≠ C.pb := ⟨Box4.ow (w := (w5.alloc (.cells #[v0, v1, v2, v3] 53)).drew) (Box4.new w5 _ _ _ _) ho (Nat.ne_of_gt hs.lt), Nat.ne_of_gt hs.lt⟩
theorem bp_set4 {w : World} {b bp : Nat} {v v0 v1 v2 v3 : Value} (h : w.cell? ⟨bp, 0, none⟩ = some v) (hn : bp ≠ b) : ((((w.setCell ⟨b, 0, none⟩ v0).setCell ⟨b, 1, none⟩ v1).setCell ⟨b, 2, none⟩ v2).setCell ⟨b, 3, none⟩ v3).cell? ⟨bp, 0, none⟩ = some v := by
  rw [World.cell?_of_block (Below.heap_setCell _ _ _ _ hn), World.cell?_of_block (Below.heap_setCell _ _ _ _ hn), World.cell?_of_block (Below.heap_setCell _ _ _ _ hn), World.cell?_of_block (Below.heap_setCell _ _ _ _ hn)]
  exact h
/-- What is kept while a node is made. -/
def SS (C : Ctx) (w4 : World) (q : Nat) (w' : World) : Prop := PSt C w' q ∧ Ow C.pb w4 w'
theorem SS.alloc {C : Ctx} {w4 w' : World} {q : Nat} (h : SS C w4 q w') (o : Obj) : SS C w4 q (w'.alloc o) := ⟨h.1.below ((Below.refl _ _).alloc (Nat.le_refl _) _), h.2.alloc _⟩
theorem SS.drew {C : Ctx} {w4 w' : World} {q : Nat} (h : SS C w4 q w') : SS C w4 q w'.drew := ⟨h.1.below (Below.refl _ _).drew, h.2.drew⟩
/-- The token's call, wherever it is made. -/
def TokP (C : Ctx) (w4 : World) (q bp : Nat) (kd : Int) (tx : List UInt8) (pl : Nat) (e : Ending) (w' : World) : Prop :=
  e = .returned (.agg #[.int .i64 kd, .string ⟨tx.toArray⟩, .int .i64 pl]) ∧ w'.cell? ⟨bp, 0, none⟩ = some (.pointer (some ⟨C.pb, 0, none⟩)) ∧ (∀ o, (w'.alloc o).cell? ⟨bp, 0, none⟩ = some (.pointer (some ⟨C.pb, 0, none⟩))) ∧ SS C w4 q w'
theorem tok_0 (C : Ctx) (w4 : World) (q bp : Nat) (hbp : bp ≠ C.pb) (kd : Int) (tx : List UInt8) (pl : Nat) (hkd : kindT C.ts q = kd) (htx : textT C.ts q = tx) (hpl : placeT C.ts C.s.size q = pl) (W : World) (h : SS C w4 q W) (hc : W.cell? ⟨bp, 0, none⟩ = some (.pointer (some ⟨C.pb, 0, none⟩))) :
    Calls Tryz.prog 102 #[.pointer (some ⟨C.pb, 0, none⟩)] W fun e w' => TokP C w4 q bp kd tx pl e w' ∧ Ow C.pb W w' := by
  refine (token_x C q W h.1 _ (fun _ _ => trivial)).mono ?_
  rintro e w' ⟨rfl, h1, h2, _⟩
  have hc' := h2.cell (p := ⟨bp, 0, none⟩) hbp hc
  exact ⟨⟨by rw [hkd, htx, hpl], hc', fun o => al_cell hc' o, h1, h.2.trans h2⟩, h2⟩
theorem tok_2 (C : Ctx) (w4 : World) (q bp : Nat) (hbp : bp ≠ C.pb) (kd : Int) (tx : List UInt8) (pl : Nat) (hkd : kindT C.ts q = kd) (htx : textT C.ts q = tx) (hpl : placeT C.ts C.s.size q = pl) (W : World) (b : Nat) (v0 v1 v2 v3 : Value) (h : SS C w4 q W) (hc : W.cell? ⟨bp, 0, none⟩ = some (.pointer (some ⟨C.pb, 0, none⟩))) (hb : Box4 W b v0 v1 v2 v3) (hn : w4.heap.size ≤ b) (hp : C.pb < w4.heap.size) :
    Calls Tryz.prog 102 #[.pointer (some ⟨C.pb, 0, none⟩)] W fun e w' => TokP C w4 q bp kd tx pl e w' ∧ BoxF w' b v0 v1 v2 v3 ∧ Box4 w' b v0 v1 v2 v3 ∧ w4.heap.size ≤ b :=
  (tok_0 C w4 q bp hbp kd tx pl hkd htx hpl W h hc).mono fun _ _ ⟨h1, h2⟩ => ⟨h1, (hb.ow h2 (by omega)).facts, hb.ow h2 (by omega), hn⟩
/-- What the statement that makes a node leaves. -/
def Made (C : Ctx) (_w w4 : World) (q : Nat) (tx : List UInt8) (pl : Nat) (s6 : Value) (wx : World) : Prop :=
  ∃ b, s6 = .pointer (some ⟨b, 0, none⟩) ∧ w4.heap.size ≤ b ∧ Box4 wx b (.int .i64 12) (.string ⟨tx.toArray⟩) (.slice none 0 0) (.int .i64 pl) ∧ Ow C.pb w4 wx ∧ PSt C wx q
theorem Made.new {C : Ctx} {w w4 w6 : World} {q : Nat} {tx : List UInt8} {pl : Nat} (hh : SS C w4 q w6) : Made C w w4 q tx pl (.pointer (some ⟨w6.heap.size, 0, none⟩)) (w6.alloc (.cells #[.int .i64 12, .string ⟨tx.toArray⟩, .slice none 0 0, .int .i64 pl] 53)) :=
  ⟨_, rfl, hh.2.size, Box4.new _ _ _ _ _, hh.2.alloc _, hh.1.below ((Below.refl _ _).alloc (Nat.le_refl _) _)⟩
theorem Made.set {C : Ctx} {w w4 w6 : World} {p q : Nat} {tx : List UInt8} {pl b : Nat} {v0 v1 v2 v3 : Value} (h0 : PSt C w p) (hw : w.heap.size ≤ w4.heap.size) (hh : SS C w4 q w6) (hb : Box4 w6 b v0 v1 v2 v3) (hle : w4.heap.size ≤ b) :
    Made C w w4 q tx pl (.pointer (some ⟨b, 0, none⟩)) ((((w6.setCell ⟨b, 0, none⟩ (.int .i64 12)).setCell ⟨b, 1, none⟩ (.string ⟨tx.toArray⟩)).setCell ⟨b, 2, none⟩ (.slice none 0 0)).setCell ⟨b, 3, none⟩ (.int .i64 pl)) :=
  ⟨_, rfl, hle, hb.set4, hh.2.set4 hle, h0.keep hh.1 ((Kp.refl _ _).set4 (Nat.le_trans hw hle))⟩

set_option maxHeartbeats 20000000 in
set_option maxRecDepth 100000 in
theorem level_any (C : Ctx) (bt bl bp bk F : Nat) (first cap : Array Value) (g c k : Nat) (hk4 : k ≤ 4) (It : World → Prop) (hIt : ∀ w w', It w → Ow C.pb w w' → It w') (eg : ∀ args w, (callFunc F args).run Tryz.prog w = .ok (.enter F args) w)
    (tight : Nat → Res Nd) (ht : OneC C F (first ++ cap) It tight) (f : Nat) (_hf : f ≤ 8192) :
    OneC C 166 #[.pointer (some ⟨bt, 0, none⟩), .pointer (some ⟨bl, 0, none⟩), .pointer (some ⟨bp, 0, none⟩), .pointer (some ⟨bk, 0, none⟩)] (fun w => It w ∧ Cap C bt bl bp bk F first cap g c k w) (levelO C.ts C.s.size tight k f) := by
  intro w p h hi hne
  obtain ⟨hit, hcap⟩ := hi
  have hmf : ∀ (fn : Fn) (first cap : Array Value) (w : World), (Instr.makeFunc fn first cap).run Tryz.prog w = .ok (.func fn first cap) w := fun _ _ _ _ => rfl
  have F1 := fld1
  have F2 := fld2
  have hpb := h.lt
  obtain ⟨n6, hn6⟩ : ∃ n6, (signsK k).length = n6 := ⟨_, rfl⟩
  have hn6' : n6 ≤ 6 := by rw [← hn6]; exact signsK_len k
  have HN6 := Lib.hid hn6
  have hsz0 := World.size_alloc w zNode
  have hAo : Ow C.pb w (w.alloc zNode) := (Ow.refl _ _).alloc _
  have hsA : PSt C (w.alloc zNode) p := h.below ((Below.refl _ _).alloc (Nat.le_refl _) _)
  have hne0 : w.heap.size ≠ C.pb := by omega
  have H0 := Lib.hid h
  have HA : Hid (Ow C.pb w (w.alloc zNode)) := Lib.hid hAo
  obtain ⟨R, hR⟩ : ∃ R, levelO C.ts C.s.size tight k f p = R := ⟨_, rfl⟩
  have E : Hid (R = (tight p).bind fun x q => levelM C.ts C.s.size tight k f x q) := hR.symm
  rw [hR] at hne ⊢
  have hZ : Box4 (w.alloc zNode) w.heap.size (.int .i64 0) (.string ⟨#[]⟩) (.slice none 0 0) (.int .i64 0) := Box4.new w _ _ _ _
  have hx0 : tight p ≠ .out := fun e => hne (by rw [E.out, e]; rfl)
  have HC := Lib.hid hcap
  obtain ⟨k0, k1, k2, k3⟩ := hcap.f hAo hn6
  simp only [zNode] at k0 k1 k2 k3
  have c0 := node_x (ht (w.alloc zNode) p hsA (hIt _ _ hit hAo) hx0) _ (fun w1 ho => And.intro (hZ.x ho hne0) (hcap.f (hAo.trans ho) hn6))
  have HNE := Lib.hid hne
  have HT := Lib.hid ht
  have HIT := Lib.hid hit
  clear hR hne h hsA hZ hx0 hcap hit hAo ht hn6
  go_enter Tryz.func166, Tryz.ntmps166
  go_wp2_with fail
  refine c0.mono ?_
  clear c0 k0 k1 k2 k3
  rintro e w3 (⟨k', n, kids, pp, y, c', q, hr3, rfl, hk3, hs3, ho3, ⟨⟨z0, z1, z2, z3, zf⟩, HZ⟩, k0, k1, k2, k3⟩ | ⟨q, hr3, b, hd1, rfl, hd3, hd4⟩)
  · have HL := E.out
    rw [hr3] at HL
    have HS : Hid (levelM C.ts C.s.size tight k f (.mk k' n kids pp) q = R) := HL.symm
    have hlt3 : w.heap.size < w3.heap.size := HZ.out.lt
    have hne3 : w3.heap.size ≠ C.pb := by omega
    have hlt13 := ho3.size
    rw [hsz0] at hlt13
    have HK3 : Hid (NdRow (w3.alloc (.cells #[.int .i64 k', .string ⟨n.toArray⟩, .slice y kids.length c', .int .i64 pp] 53)) (fun b => w.heap.size < b ∧ b ≠ w3.heap.size) kids y) := NdRow.mono (fun b h1 h2 => by rw [hsz0] at h1; omega) (fun b _ h2 => Below.heap_alloc _ _ b h2) _ _ hk3
    have HS3 : Hid (PSt C (w3.alloc (.cells #[.int .i64 k', .string ⟨n.toArray⟩, .slice y kids.length c', .int .i64 pp] 53)) q) := hs3.below ((Below.refl _ _).alloc (Nat.le_refl _) _)
    have HO3 : Hid (Ow C.pb w (w3.alloc (.cells #[.int .i64 k', .string ⟨n.toArray⟩, .slice y kids.length c', .int .i64 pp] 53))) := (HA.out.trans ho3).alloc _
    have HZ3 : Hid (Box4 (w3.alloc (.cells #[.int .i64 k', .string ⟨n.toArray⟩, .slice y kids.length c', .int .i64 pp] 53)) w.heap.size (.int .i64 0) (.string ⟨#[]⟩) (.slice none 0 0) (.int .i64 0)) := HZ.out.alloc _
    have HX3 : Hid (Box4 (w3.alloc (.cells #[.int .i64 k', .string ⟨n.toArray⟩, .slice y kids.length c', .int .i64 pp] 53)) w3.heap.size (.int .i64 k') (.string ⟨n.toArray⟩) (.slice y kids.length c') (.int .i64 pp)) := Box4.new _ _ _ _ _
    clear hr3 hk3 hs3 ho3 z0 z1 z2 z3 zf HZ HL k0 k1 k2 k3
    go_wp2_with fail
    go_loopg [] f (fun gg wx => ∃ k' n, ∃ kids : List Nd, ∃ pp y, ∃ c' : Cp kids.length, ∃ q, Box4 wx w.heap.size (.int .i64 0) (.string ⟨#[]⟩) (.slice none 0 0) (.int .i64 0) ∧ Box4 wx w3.heap.size (.int .i64 k') (.string ⟨n.toArray⟩) (.slice y (List.length kids) c') (.int .i64 pp) ∧ NdRow wx (fun b => w.heap.size < b ∧ b ≠ w3.heap.size) kids y ∧ PSt C wx q ∧ Ow C.pb w wx ∧ Hid (levelM C.ts C.s.size tight k gg (.mk k' n kids pp) q = R))
    case atStart => exact ⟨k', n, kids, pp, y, c', q, HZ3.out, HX3.out, HK3.out, HS3.out, HO3.out, HS⟩
    case round =>
      clear HZ3 HX3 HK3 HS3 HO3 HS
      obtain ⟨k', n, kids, pp, y, c', q, hZ, hX, hK, hs, ho, hS⟩ := hrel
      obtain ⟨g', rfl⟩ : ∃ g', gk = g' + 1 := by
        cases gk with
        | zero => exact absurd hS.out.symm HNE.out
        | succ g' => exact ⟨g', rfl⟩
      have hltr := hX.lt
      obtain ⟨k0, k1, k2, k3⟩ := HC.out.f ho HN6.out
      have c1 := containsf_any C q (signsK k) n6 HN6.out (by omega) g 0 c wr hs (HC.out.ow ho).row
      obtain ⟨z0, z1, z2, z3, zf⟩ := hZ.facts
      obtain ⟨x0, x1, x2, x3, xf⟩ := hX.facts
      cases hB : anyT C.ts q (signsK k)
      · rw [hB] at c1
        have HL := hS.out
        rw [levelM_end hB] at HL
        have HE2 := Lib.hid HL
        have HX' : ∀ w4, Below wr.heap.size wr w4 → BoxX w4 w.heap.size (.int .i64 0) (.string ⟨#[]⟩) (.slice none 0 0) (.int .i64 0) ∧ BoxX w4 w3.heap.size (.int .i64 k') (.string ⟨n.toArray⟩) (.slice y (List.length kids) c') (.int .i64 pp) ∧ Hid (NdRow w4 (fun b => w.heap.size < b ∧ b ≠ w3.heap.size) kids y) ∧ Hid (PSt C w4 q) ∧ Hid (Ow C.pb w w4) := fun w4 hb =>
          ⟨hZ.x (Ow.of_below (b := C.pb) hb) hne0, hX.x (Ow.of_below (b := C.pb) hb) hne3, hK.below hb, hs.below hb, ho.below hb⟩
        clear hZ hX hK hs ho hS hB HL z0 z1 z2 z3 zf x0 x1 x2 x3 xf
        go_wp2_with fail
        refine c1.mono ?_
        clear c1
        rintro e w4 ⟨rfl, hb4⟩
        obtain ⟨⟨⟨z0, z1, z2, z3, zf⟩, HZ⟩, ⟨⟨x0, x1, x2, x3, xf⟩, HX⟩, HK4, HS4, HO4⟩ := HX' w4 hb4
        go_wp2_with fail
        refine ret_node rfl rfl rfl (by simp [go_sem, z0]) (by simp [go_sem, z1]) (by simp [go_sem, z2]) (by simp [go_sem, z3]) (.inl ⟨k', n, kids, pp, y, c', q, HE2.out.symm, rfl, (HK4.out.set4 (fun b hb => by omega)).wide (fun b hb _ => by omega), H0.out.keep HS4.out ((Kp.refl _ _).set4 (Nat.le_refl _)), HO4.out.set4 (Nat.le_refl _)⟩)
      · rw [hB] at c1
        have hqn := anyT_lt hB
        have HQN := Lib.hid hqn
        have hle := hs.len
        have X1 : IntKind.i64.wrap ((q : Int) + 1) = (q : Int) + 1 := IntWalk.i64_in _ (by omega)
        obtain ⟨pl, hpl⟩ : ∃ pl, placeT C.ts C.s.size q = pl := ⟨_, rfl⟩
        obtain ⟨tx, htx⟩ : ∃ tx, textT C.ts q = tx := ⟨_, rfl⟩
        obtain ⟨kd, hkd⟩ : ∃ kd, kindT C.ts q = kd := ⟨_, rfl⟩
        have HL := hS.out
        rw [levelM_step hB, hpl, htx] at HL
        have HS2 := Lib.hid HL
        have HX' : ∀ w4, Ow C.pb wr w4 → BoxX w4 w.heap.size (.int .i64 0) (.string ⟨#[]⟩) (.slice none 0 0) (.int .i64 0) ∧ BoxX w4 w3.heap.size (.int .i64 k') (.string ⟨n.toArray⟩) (.slice y (List.length kids) c') (.int .i64 pp) ∧ CapF C bt bl bp bk F first cap g n6 c k w4 ∧ Hid (NdRow w4 (fun b => (w.heap.size < b ∧ b ≠ w3.heap.size) ∧ b < wr.heap.size) kids y) := fun w4 hb =>
          ⟨hZ.x hb hne0, hX.x hb hne3, HC.out.f (ho.trans hb) HN6.out, (hK.wide (fun b h1 h2 => ⟨h1, h2⟩)).ow hb (fun b hb => by omega)⟩
        have HO := Lib.hid ho
        have c2 : ∀ w4, Below wr.heap.size wr w4 → PSt C w4 q := fun w4 hb => hs.below hb
        clear hZ hX hK hs ho hS hB HL z0 z1 z2 z3 zf x0 x1 x2 x3 xf hqn hle
        go_wp2_with fail
        refine c1.mono ?_
        clear c1 k0 k1 k2 k3
        rintro e w4 ⟨rfl, hb4⟩
        have hs4 := c2 w4 hb4
        have hO4 := Ow.of_below (b := C.pb) hb4
        obtain ⟨⟨⟨z0, z1, z2, z3, zf⟩, HZ⟩, ⟨⟨x0, x1, x2, x3, xf⟩, HX⟩, ⟨k0, k1, k2, k3⟩, HK4⟩ := HX' w4 hO4
        have HO4 := Lib.hid hO4
        have m2 := fun o => al_cell k2 o
        have hw4 : w.heap.size ≤ w4.heap.size := by have := HZ.out.lt; omega
        have HS4 := Lib.hid hs4
        clear c2 hb4
        have hpb4 : C.pb < w4.heap.size := hs4.lt
        have hS4 : SS C w4 q w4.drew := ⟨hs4.below (Below.refl _ _).drew, (Ow.refl _ _).drew⟩
        have c0 := tok_0 C w4 q bp HC.out.ne.2.2.1 kd tx pl hkd htx hpl
        have cN : ∀ w5, SS C w4 q w5 → w5.cell? ⟨bp, 0, none⟩ = some (.pointer (some ⟨C.pb, 0, none⟩)) → _ := fun w5 h1 h2 => tok_2 C w4 q bp HC.out.ne.2.2.1 kd tx pl hkd htx hpl (w5.alloc (.cells #[.int .i64 0, .string ⟨#[]⟩, .slice none 0 0, .int .i64 0] 53)) w5.heap.size _ _ _ _ (h1.alloc _) (al_cell h2 _) (Box4.new w5 _ _ _ _) h1.2.size hpb4
        have cD := tok_2 C w4 q bp HC.out.ne.2.2.1 kd tx pl hkd htx hpl (w4.alloc (.cells #[.int .i64 0, .string ⟨#[]⟩, .slice none 0 0, .int .i64 0] 53)).drew w4.heap.size _ _ _ _ (hS4.alloc _) (m2 _) (Box4.new w4 _ _ _ _) (Nat.le_refl _) hpb4
        have c0d := c0 w4.drew hS4 k2
        have k2d : w4.drew.cell? ⟨bp, 0, none⟩ = some (.pointer (some ⟨C.pb, 0, none⟩)) := k2
        have m2d : ∀ o, (w4.alloc o).drew.cell? ⟨bp, 0, none⟩ = some (.pointer (some ⟨C.pb, 0, none⟩)) := m2
        have hbl : bp < w4.heap.size := World.block_lt_of_cell? w4 _ k2
        have c2 := tok_2 C w4 q bp HC.out.ne.2.2.1 kd tx pl hkd htx hpl
        clear hpl htx hkd hs4 hO4
        go_wp2_with fail
        go_upto_region 3 with fail
        go_cut [6] from 9 to 35 (fun s6 wx => Made C w w4 q tx pl s6 wx)
        case first =>
          go_region_held3 (fun w' => w'.cell? ⟨bp, 0, none⟩ = some (.pointer (some ⟨C.pb, 0, none⟩))) (first | with_reducible assumption | with_reducible exact hq6 _ | with_reducible exact m2 _ | with_reducible exact m2d _ | with_reducible exact bp_set4 hp6 (by omega)) (first | (go_at_call 102; (with_reducible refine (cN w6 hS6 hp6).mono ?_); rintro e w6 ⟨⟨rfl, hp6, hq6, hS6⟩, ⟨g0, g1, g2, g3, gf⟩, HB, hle⟩) | (go_at_call 102; (with_reducible refine (c2 w6 _ _ _ _ _ hS6 hp6 HB hle hpb4).mono ?_); rintro e w6 ⟨⟨rfl, hp6, hq6, hS6⟩, ⟨g0, g1, g2, g3, gf⟩, HB, hle⟩) | (go_at_call 102; (with_reducible refine (c0 w6 hS6 hp6).mono ?_); rintro e w6 ⟨⟨rfl, hp6, hq6, hS6⟩, _⟩) | (go_at_call 102; (with_reducible refine cD.mono ?_); rintro e w6 ⟨⟨rfl, hp6, hq6, hS6⟩, ⟨g0, g1, g2, g3, gf⟩, HB, hle⟩) | (go_at_call 102; (with_reducible refine c0d.mono ?_); rintro e w6 ⟨⟨rfl, hp6, hq6, hS6⟩, _⟩))
          all_goals go_wp2_with fail
          all_goals go_meet
          all_goals (first | exact Made.new hS6 | exact Made.set H0.out hw4 hS6 HB hle | trace_state)
        case rest =>
          obtain ⟨b, rfl, hle, hN, ho6, hs6⟩ := hcut
          have HOc := Lib.hid (HO4.out.trans ho6)
          have hr4 := HO4.out.size
          clear c0 cN cD c0d k2d m2d hbl c2 hS4 m2 z0 z1 z2 z3 zf HZ x0 x1 x2 x3 xf HX k0 k1 k2 k3 HK4 HS4 HO4
          obtain ⟨⟨⟨z0, z1, z2, z3, zf⟩, HZ⟩, ⟨⟨x0, x1, x2, x3, xf⟩, HX⟩, ⟨k0, k1, k2, k3⟩, HK⟩ := HX' wc HOc.out
          obtain ⟨_, _, j2, jf⟩ := hs6.cells
          have hneb : b ≠ C.pb := by omega
          have hneb' : C.pb ≠ b := by omega
          have hszr := HO.out.size
          have hrr : wr.heap.size ≤ b := Nat.le_trans hr4 hle
          have hs7 : PSt C (wc.setCell ⟨C.pb, 2, none⟩ (.int .i64 ((q : Int) + 1))).drew (q + 1) := (hs6.step (q := q + 1) HQN.out).below (Below.refl _ _).drew
          have hO7 : Ow C.pb wr (wc.setCell ⟨C.pb, 2, none⟩ (.int .i64 ((q : Int) + 1))).drew := (HOc.out.setCell (a := ⟨C.pb, 2, none⟩) (.inl rfl) _).drew
          have hN7 : Box4 (wc.setCell ⟨C.pb, 2, none⟩ (.int .i64 ((q : Int) + 1))).drew b (.int .i64 12) (.string ⟨tx.toArray⟩) (.slice none 0 0) (.int .i64 pl) := Box4.other (k := C.pb) (o := 2) (v := .int .i64 ((q : Int) + 1)) hN hneb
          have hx0 : tight (q + 1) ≠ .out := fun e => HNE.out (by rw [← HS2.out, e]; rfl)
          have c3 := HT.out _ (q + 1) hs7 (hIt _ _ HIT.out (HO.out.trans hO7)) hx0
          have hX7 := fun w' (ho' : Ow C.pb (wc.setCell ⟨C.pb, 2, none⟩ (.int .i64 ((q : Int) + 1))).drew w') => And.intro (HX' w' (hO7.trans ho')) (hN7.x ho' hneb)
          have HO7 := Lib.hid hO7
          have HLB := Lib.hid hN7.lt
          obtain ⟨n0, n1, n2, n3, nf⟩ := hN.facts
          clear hs6 hs7 hO7 hN7 hN ho6
          cases hres : tight (q + 1) with
          | out => exact absurd hres hx0
          | bad q7 =>
            have c4 := node_bad c3 hres
            have HRES := Lib.hid hres
            clear hX7 c3 hres hx0
            go_wp2_with fail
            go_region_dies
            all_goals (refine c4.mono ?_; rintro e w7 ⟨b', hd1, rfl, hd3, hd4⟩; exact ⟨rfl, .inr ⟨q7, by rw [← HS2.out, HRES.out]; rfl, b', Nat.le_trans (HO.out.trans HO7.out).size hd1, rfl, hd3, (HO.out.trans HO7.out).trans hd4⟩⟩)
          | ok nd q7 =>
            obtain ⟨k9, n', kids', pp'⟩ := nd
            have c4 := node_ok c3 hres _ hX7
            have HRES := Lib.hid hres
            clear hX7 c3 hres hx0
            go_wp2_with fail
            go_region_with (first | (go_at_fn F; (with_reducible refine c4.mono ?_); rintro e w7 ⟨y', c9, rfl, hk7, hs7, ho7, ⟨⟨⟨z0, z1, z2, z3, zf⟩, HZ⟩, ⟨⟨x0, x1, x2, x3, xf⟩, HX⟩, ⟨k0, k1, k2, k3⟩, hkk⟩, ⟨n0, n1, n2, n3, nf⟩, HN⟩; have l2 := fun o => al_cell n2 o; have lf := fun ob o => ((HN.out.alloc ob).facts).2.2.2.2 o))
            all_goals (
              have hsz7 := ho7.size
              have HLb := HLB.out
              have hb7 : b < w7.heap.size := Nat.lt_of_lt_of_le HLB.out ho7.size
              have HO8 := Lib.hid (((HO.out.trans HO7.out).trans ho7).alloc (.cells #[.int .i64 k', .string ⟨n.toArray⟩, .slice y (List.length kids) c', .int .i64 pp, .int .i64 k9, .string ⟨n'.toArray⟩, .slice y' (List.length kids') c9, .int .i64 pp'] 53))
              have hbkw : bk < w.heap.size := World.block_lt_of_cell? w _ HC.out.ki
              have d1 : w.heap.size ≠ b := by omega
              have d2 : w3.heap.size ≠ b := by omega
              have d3 : b ≠ w.heap.size := by omega
              have d4 : b ≠ w3.heap.size := by omega
              have d5 : bk ≠ b := by omega
              have d6 : bk ≠ w3.heap.size := by omega
              have d7 : w.heap.size ≠ w3.heap.size := by omega
              have HRW : Hid (NdRow ((w7.alloc (.cells #[.int .i64 k', .string ⟨n.toArray⟩, .slice y (List.length kids) c', .int .i64 pp, .int .i64 k9, .string ⟨n'.toArray⟩, .slice y' (List.length kids') c9, .int .i64 pp'] 53)).setCell ⟨b, 2, none⟩ (.slice (some ⟨w7.heap.size, 0, none⟩) 2 2)) (fun i => (w.heap.size < i ∧ i ≠ w3.heap.size) ∧ i ≠ b) [.mk k' n kids pp, .mk k9 n' kids' pp'] (some ⟨w7.heap.size, 0, none⟩)) :=
                (NdRow.buildK (ok := fun i => (w.heap.size < i ∧ i ≠ w3.heap.size) ∧ i ≠ b) ⟨⟨by omega, by omega⟩, by omega⟩ (NFlat.two ((hkk.out.wide (fun i hi _ => by omega)).cells (k := k') (n := n) (p := pp) (c := c')) ((hk7.wide (fun i hi _ => by omega)).cells (k := k9) (n := n') (p := pp') (c := c9)))).set (fun i hi => hi.2)
              have HS8 : Hid (PSt C ((w7.alloc (.cells #[.int .i64 k', .string ⟨n.toArray⟩, .slice y (List.length kids) c', .int .i64 pp, .int .i64 k9, .string ⟨n'.toArray⟩, .slice y' (List.length kids') c9, .int .i64 pp'] 53)).setCell ⟨b, 2, none⟩ (.slice (some ⟨w7.heap.size, 0, none⟩) 2 2)) q7) := H0.out.keep hs7 (((Kp.refl _ _).alloc (by omega) (.cells #[.int .i64 k', .string ⟨n.toArray⟩, .slice y (List.length kids) c', .int .i64 pp, .int .i64 k9, .string ⟨n'.toArray⟩, .slice y' (List.length kids') c9, .int .i64 pp'] 53)).set (k := b) (o := 2) (v := .slice (some ⟨w7.heap.size, 0, none⟩) 2 2) (by omega))
              have HZ8 : Hid (Box4 ((w7.alloc (.cells #[.int .i64 k', .string ⟨n.toArray⟩, .slice y (List.length kids) c', .int .i64 pp, .int .i64 k9, .string ⟨n'.toArray⟩, .slice y' (List.length kids') c9, .int .i64 pp'] 53)).setCell ⟨b, 2, none⟩ (.slice (some ⟨w7.heap.size, 0, none⟩) 2 2)) w.heap.size (.int .i64 0) (.string ⟨#[]⟩) (.slice none 0 0) (.int .i64 0)) := Box4.other (HZ.out.alloc (.cells #[.int .i64 k', .string ⟨n.toArray⟩, .slice y (List.length kids) c', .int .i64 pp, .int .i64 k9, .string ⟨n'.toArray⟩, .slice y' (List.length kids') c9, .int .i64 pp'] 53)) d1
              have HX8 : Hid (Box4 ((w7.alloc (.cells #[.int .i64 k', .string ⟨n.toArray⟩, .slice y (List.length kids) c', .int .i64 pp, .int .i64 k9, .string ⟨n'.toArray⟩, .slice y' (List.length kids') c9, .int .i64 pp'] 53)).setCell ⟨b, 2, none⟩ (.slice (some ⟨w7.heap.size, 0, none⟩) 2 2)) w3.heap.size (.int .i64 k') (.string ⟨n.toArray⟩) (.slice y (List.length kids) c') (.int .i64 pp)) := Box4.other (HX.out.alloc (.cells #[.int .i64 k', .string ⟨n.toArray⟩, .slice y (List.length kids) c', .int .i64 pp, .int .i64 k9, .string ⟨n'.toArray⟩, .slice y' (List.length kids') c9, .int .i64 pp'] 53)) d2
              obtain ⟨z0', z1', z2', z3', zf'⟩ := HZ8.out.facts
              obtain ⟨x0', x1', x2', x3', xf'⟩ := HX8.out.facts
              obtain ⟨n0', n1', n2', n3', nf'⟩ := Box4.facts (Box4.set2 (v := .slice (some ⟨w7.heap.size, 0, none⟩) 2 2) (HN.out.alloc (.cells #[.int .i64 k', .string ⟨n.toArray⟩, .slice y (List.length kids) c', .int .i64 pp, .int .i64 k9, .string ⟨n'.toArray⟩, .slice y' (List.length kids') c9, .int .i64 pp'] 53)))
              have kk3 : ((w7.alloc (.cells #[.int .i64 k', .string ⟨n.toArray⟩, .slice y (List.length kids) c', .int .i64 pp, .int .i64 k9, .string ⟨n'.toArray⟩, .slice y' (List.length kids') c9, .int .i64 pp'] 53)).setCell ⟨b, 2, none⟩ (.slice (some ⟨w7.heap.size, 0, none⟩) 2 2)).cell? ⟨bk, 0, none⟩ = some (.int .i64 k) := (World.cell?_of_block (Below.heap_setCell _ _ _ _ d5)).trans (al_cell k3 _)
              have HO9 : Hid (Ow C.pb w ((w7.alloc (.cells #[.int .i64 k', .string ⟨n.toArray⟩, .slice y (List.length kids) c', .int .i64 pp, .int .i64 k9, .string ⟨n'.toArray⟩, .slice y' (List.length kids') c9, .int .i64 pp'] 53)).setCell ⟨b, 2, none⟩ (.slice (some ⟨w7.heap.size, 0, none⟩) 2 2))) := HO8.out.set (by omega)
              obtain ⟨W8, hW8⟩ : ∃ W8, (w7.alloc (.cells #[.int .i64 k', .string ⟨n.toArray⟩, .slice y (List.length kids) c', .int .i64 pp, .int .i64 k9, .string ⟨n'.toArray⟩, .slice y' (List.length kids') c9, .int .i64 pp'] 53)).setCell ⟨b, 2, none⟩ (.slice (some ⟨w7.heap.size, 0, none⟩) 2 2) = W8 := ⟨_, rfl⟩
              rw [hW8] at HRW HS8 HZ8 HX8 z0' z1' z2' z3' x0' x1' x2' x3' n0' n1' n2' n3' kk3 HO9 ⊢
              simp only [hW8] at zf' xf' nf'
              have hw8 : w3.heap.size < W8.heap.size := HX8.out.lt
              have X2 : IntKind.i64.wrap ((k : Int) + 1) = (k : Int) + 1 := IntWalk.i64_in _ (by omega)
              have hR := HS2.out
              rw [HRES.out] at hR
              simp only [Res.bind] at hR
              have HW8 := Lib.hid hW8
              clear hW8 hk7 hs7 ho7 hkk HZ HX HN z0 z1 z2 z3 zf x0 x1 x2 x3 xf n0 n1 n2 n3 nf k0 k1 k2 k3 l2 lf HO8 j2 jf c4 HS2 HX'
              by_cases hk2 : k = 2
              · rw [if_pos hk2] at hR
                have HR := Lib.hid hR
                have Q : ((k : Int) + 1 == 3) = true := by rw [hk2]; rfl
                clear hR
                go_wp2_with fail
                refine ret_node rfl rfl rfl (by simp [go_sem, z0']) (by simp [go_sem, z1']) (by simp [go_sem, z2']) (by simp [go_sem, z3']) (.inl ⟨12, tx, [.mk k' n kids pp, .mk k9 n' kids' pp'], pl, some ⟨w7.heap.size, 0, none⟩, ⟨2, Nat.le_refl _⟩, q7, HR.out.symm, rfl, ((HRW.out.set4 (fun i hi => hi.1.2)).set4 (fun i hi => by omega)).wide (fun i hi _ => by omega), H0.out.keep HS8.out (((Kp.refl _ _).set4 (by omega)).set4 (Nat.le_refl _)), (HO9.out.set4 (by omega)).set4 (Nat.le_refl _)⟩)
              · rw [if_neg hk2] at hR
                have HR := Lib.hid hR
                have Q : ((k : Int) + 1 == 3) = false := beq_eq_false_iff_ne.2 (by omega)
                clear hR
                go_wp2_with fail
                go_roundg g'
                case measure => omega
                case rel =>
                  exact ⟨12, tx, [.mk k' n kids pp, .mk k9 n' kids' pp'], pl, some ⟨w7.heap.size, 0, none⟩, ⟨2, Nat.le_refl _⟩, q7, HZ8.out.other4 (by omega), HX8.out.set4, (HRW.out.set4 (fun i hi => hi.1.2)).wide (fun i hi _ => hi.1), H0.out.keep HS8.out ((Kp.refl _ _).set4 (by omega)), HO9.out.set4 (by omega), HR⟩)
  · refine ⟨rfl, .inr ⟨q, ?_, b, Nat.le_trans HA.out.size hd1, rfl, hd3, HA.out.trans hd4⟩⟩
    rw [E.out, hr3]
    rfl
end Go.Proofs.YtpbkeamjdolpgaaGreatDoor
