/- A node that the reference's parser puts together: what is known between two steps. -/
import Derived.Test.YtpbkeamjdolpgaaGreatDoorTreeQf
import Derived.Deep.Cut
namespace Go.Proofs.YtpbkeamjdolpgaaGreatDoor
open Go.RowKit Go.Lib Go.Shelf

theorem hj {p : Prop} (h : p) : Hid p := Lib.hid h
/-- A node's variable is written. -/
abbrev S4 (W : World) (a : Nat) (v0 v1 v2 v3 : Value) : World := (((W.setCell ⟨a, 0, none⟩ v0).setCell ⟨a, 1, none⟩ v1).setCell ⟨a, 2, none⟩ v2).setCell ⟨a, 3, none⟩ v3
/-- Where a walk is held. -/
def Hold (p : Prop) : Prop := p
theorem Hold.out {p : Prop} (h : Hold p) : p := h
theorem Hold.put {p : Prop} (h : p) : Hold p := h
/-- A variable that holds a node: where it lies, what it holds. -/
abbrev Bx := Nat × Value × Value × Value × Value
abbrev zB (a : Nat) : Bx := (a, .int .i64 0, .string ⟨#[]⟩, .slice none 0 0, .int .i64 0)
abbrev nB (a : Nat) (k : Int) (n : List UInt8) (y : Option Addr) (l : List Nd) (c : Nat) (p : Int) : Bx := (a, .int .i64 k, .string ⟨n.toArray⟩, .slice y l.length c, .int .i64 p)
/-- The parser's state, and the call's own variables. -/
structure NSt (C : Ctx) (w W : World) (b : Bool) (p : Nat) (bs : List Bx) : Prop where
  st : RSt C W b p
  ow : Ow C.pb w W
  pb : C.pb < w.heap.size
  xl : ∀ (g i : Nat) (u : Tk), C.ts[i]? = some u → C.x = some ⟨g, 0, none⟩ → g < w.heap.size
  bx : ∀ x ∈ bs, w.heap.size ≤ x.1 ∧ Box4 W x.1 x.2.1 x.2.2.1 x.2.2.2.1 x.2.2.2.2
  dis : (bs.map (·.1)).Pairwise (· ≠ ·)
/-- Nodes of the call's own that lie in none of these blocks. -/
def Rw (B : Nat) (W : World) (ads : List Nat) (l : List Nd) (y : Option Addr) : Prop := NdRow W (fun j => B ≤ j ∧ j ∉ ads) l y
theorem NSt.start {C : Ctx} {w : World} {b : Bool} {p : Nat} (h : RSt C w b p) : NSt C w w b p [] := ⟨h, Ow.refl _ _, h.lt, h.xlt, by simp, by simp⟩
theorem NSt.call {C : Ctx} {w W W' : World} {b b' : Bool} {p p' : Nat} {bs : List Bx} (h : NSt C w W b p bs) (hs : RSt C W' b' p') (ho : Ow C.pb W W') : NSt C w W' b' p' bs :=
  ⟨hs, h.ow.trans ho, h.pb, h.xl, fun x hx => ⟨(h.bx x hx).1, (h.bx x hx).2.ow ho (by have := (h.bx x hx).1; have := h.pb; omega)⟩, h.dis⟩
theorem NSt.below {C : Ctx} {w W W' : World} {b : Bool} {p : Nat} {bs : List Bx} (h : NSt C w W b p bs) (hb : Below W.heap.size W W') : NSt C w W' b p bs := h.call (h.st.below hb) (Ow.of_below hb)
theorem NSt.blk {C : Ctx} {w W : World} {b : Bool} {p : Nat} {bs : List Bx} (h : NSt C w W b p bs) (o : Obj) : NSt C w (W.alloc o) b p bs := h.below ((Below.refl _ _).alloc (Nat.le_refl _) _)
theorem NSt.lt {C : Ctx} {w W : World} {b : Bool} {p : Nat} {bs : List Bx} (h : NSt C w W b p bs) : ∀ x ∈ bs, x.1 < W.heap.size := fun x hx => (h.bx x hx).2.lt
theorem NSt.alloc {C : Ctx} {w W : World} {b : Bool} {p : Nat} {bs : List Bx} (h : NSt C w W b p bs) (v0 v1 v2 v3 : Value) : NSt C w (W.alloc (.cells #[v0, v1, v2, v3] 53)) b p ((W.heap.size, v0, v1, v2, v3) :: bs) :=
  ⟨(h.blk _).st, (h.blk _).ow, h.pb, h.xl, fun x hx => by
    rcases List.mem_cons.1 hx with rfl | hx
    · exact ⟨h.ow.size, Box4.new _ _ _ _ _⟩
    · exact (h.blk _).bx x hx, by
    simp only [List.map_cons, List.pairwise_cons]
    refine ⟨fun a ha e => ?_, h.dis⟩
    obtain ⟨x, hx, rfl⟩ := List.mem_map.1 ha
    have := h.lt x hx
    omega⟩
/-- The parser goes one token on. -/
theorem NSt.step {C : Ctx} {w W : World} {p : Nat} {bs : List Bx} (h : NSt C w W false p bs) {q : Nat} (hq : q ≤ C.ts.length) : NSt C w (W.setCell ⟨C.pb, 2, none⟩ (.int .i64 q)) false q bs :=
  h.call (h.st.step hq) ((Ow.refl _ _).setCell (a := ⟨C.pb, 2, none⟩) (.inl rfl) _)
/-- A variable is turned. -/
theorem NSt.put {C : Ctx} {w W W' : World} {b : Bool} {p : Nat} {pre post : List Bx} {x x' : Bx} (h : NSt C w W b p (pre ++ x :: post)) (hx : x'.1 = x.1) (hW : Ow x.1 W W') (hk : ∀ k, k ≠ x.1 → W'.heap[k]? = W.heap[k]?) (hB : Box4 W' x.1 x'.2.1 x'.2.2.1 x'.2.2.2.1 x'.2.2.2.2) :
    NSt C w W' b p (pre ++ x' :: post) := by
  have hx0 := h.bx x (by simp)
  have hd : ∀ y ∈ pre ++ post, y.1 ≠ x.1 := by
    have h1 := h.dis
    rw [List.map_append, List.map_cons, List.pairwise_append, List.pairwise_cons] at h1
    intro y hy
    rcases List.mem_append.1 hy with hy | hy
    · exact h1.2.2 _ (List.mem_map.2 ⟨y, hy, rfl⟩) _ (by simp)
    · exact (h1.2.1.1 _ (List.mem_map.2 ⟨y, hy, rfl⟩)).symm
  refine ⟨h.st.turn (fun g i u hu e => by have := h.xl g i u hu e; omega) (by have := h.pb; omega) hx0.2 (by decide) fun k _ hn => hk k hn, ?_, h.pb, h.xl, ?_, ?_⟩
  · exact ⟨hW.os.trans h.ow.os, hW.tape.trans h.ow.tape, hW.output.trans h.ow.output, Nat.le_trans h.ow.size hW.size, fun k hk1 hn => (hk k (by omega)).trans (h.ow.block k hk1 hn)⟩
  · intro y hy
    rcases List.mem_append.1 hy with hy | hy
    · have h1 := h.bx y (by simp [hy])
      have h2 := hd y (by simp [hy])
      exact ⟨h1.1, (hk _ h2).trans h1.2⟩
    · rcases List.mem_cons.1 hy with rfl | hy
      · exact ⟨by rw [hx]; exact hx0.1, by rw [hx]; exact hB⟩
      · have h1 := h.bx y (by simp [hy])
        have h2 := hd y (by simp [hy])
        exact ⟨h1.1, (hk _ h2).trans h1.2⟩
  · have h1 := h.dis
    rw [List.map_append, List.map_cons] at h1 ⊢
    rw [hx]
    exact h1
theorem NSt.set0 {C : Ctx} {w W : World} {b : Bool} {p : Nat} {pre post : List Bx} {a : Nat} {v0 v1 v2 v3 v : Value} (h : NSt C w W b p (pre ++ (a, v0, v1, v2, v3) :: post)) : NSt C w (W.setCell ⟨a, 0, none⟩ v) b p (pre ++ (a, v, v1, v2, v3) :: post) :=
  h.put rfl ((Ow.refl _ _).setCell (a := ⟨a, 0, none⟩) (.inl rfl) _) (fun k hk => Below.heap_setCell W _ v k hk) (h.bx _ (by simp)).2.set0
theorem NSt.set1 {C : Ctx} {w W : World} {b : Bool} {p : Nat} {pre post : List Bx} {a : Nat} {v0 v1 v2 v3 v : Value} (h : NSt C w W b p (pre ++ (a, v0, v1, v2, v3) :: post)) : NSt C w (W.setCell ⟨a, 1, none⟩ v) b p (pre ++ (a, v0, v, v2, v3) :: post) :=
  h.put rfl ((Ow.refl _ _).setCell (a := ⟨a, 1, none⟩) (.inl rfl) _) (fun k hk => Below.heap_setCell W _ v k hk) (h.bx _ (by simp)).2.set1
theorem NSt.set2 {C : Ctx} {w W : World} {b : Bool} {p : Nat} {pre post : List Bx} {a : Nat} {v0 v1 v2 v3 v : Value} (h : NSt C w W b p (pre ++ (a, v0, v1, v2, v3) :: post)) : NSt C w (W.setCell ⟨a, 2, none⟩ v) b p (pre ++ (a, v0, v1, v, v3) :: post) :=
  h.put rfl ((Ow.refl _ _).setCell (a := ⟨a, 2, none⟩) (.inl rfl) _) (fun k hk => Below.heap_setCell W _ v k hk) (h.bx _ (by simp)).2.set2
theorem NSt.set3 {C : Ctx} {w W : World} {b : Bool} {p : Nat} {pre post : List Bx} {a : Nat} {v0 v1 v2 v3 v : Value} (h : NSt C w W b p (pre ++ (a, v0, v1, v2, v3) :: post)) : NSt C w (W.setCell ⟨a, 3, none⟩ v) b p (pre ++ (a, v0, v1, v2, v) :: post) :=
  h.put rfl ((Ow.refl _ _).setCell (a := ⟨a, 3, none⟩) (.inl rfl) _) (fun k hk => Below.heap_setCell W _ v k hk) (h.bx _ (by simp)).2.set3
theorem NSt.set4 {C : Ctx} {w W : World} {b : Bool} {p : Nat} {pre post : List Bx} {a : Nat} {v0 v1 v2 v3 u0 u1 u2 u3 : Value} (h : NSt C w W b p (pre ++ (a, v0, v1, v2, v3) :: post)) :
    NSt C w ((((W.setCell ⟨a, 0, none⟩ u0).setCell ⟨a, 1, none⟩ u1).setCell ⟨a, 2, none⟩ u2).setCell ⟨a, 3, none⟩ u3) b p (pre ++ (a, u0, u1, u2, u3) :: post) :=
  h.set0.set1.set2.set3
/-- What the loads read. -/
theorem NSt.at_ {C : Ctx} {w W : World} {b : Bool} {p : Nat} {bs : List Bx} (h : NSt C w W b p bs) {x : Bx} (hx : x ∈ bs) : BoxF W x.1 x.2.1 x.2.2.1 x.2.2.2.1 x.2.2.2.2 := (h.bx x hx).2.facts
theorem Rw.call {C : Ctx} {B : Nat} {W W' : World} {ads : List Nat} {l : List Nd} {y : Option Addr} (h : Rw B W ads l y) (hpb : C.pb < B) (ho : Ow C.pb W W') : Rw B W' ads l y := NdRow.ow h ho fun k hk => by have := hk.1; omega
theorem Rw.blk {B : Nat} {W : World} {ads : List Nat} {l : List Nd} {y : Option Addr} (h : Rw B W ads l y) (o : Obj) : Rw B (W.alloc o) ads l y := NdRow.alloc h o
theorem Rw.alloc {B : Nat} {W : World} {ads : List Nat} {l : List Nd} {y : Option Addr} (h : Rw B W ads l y) (o : Obj) : Rw B (W.alloc o) (W.heap.size :: ads) l y :=
  NdRow.mono (fun k hk hlt => ⟨hk.1, by simp; exact ⟨by omega, hk.2⟩⟩) (fun k _ hlt => Below.heap_alloc W o k hlt) l y h
theorem Rw.put {B : Nat} {W W' : World} {ads : List Nat} {l : List Nd} {y : Option Addr} (h : Rw B W ads l y) {a : Nat} (ha : a ∈ ads) (hk : ∀ k, k ≠ a → W'.heap[k]? = W.heap[k]?) : Rw B W' ads l y :=
  NdRow.mono (fun _ h _ => h) (fun k h1 _ => hk k (fun e => h1.2 (by rw [e]; exact ha))) l y h
theorem Rw.set {B : Nat} {W : World} {ads : List Nat} {l : List Nd} {y : Option Addr} (h : Rw B W ads l y) {a o : Nat} (ha : a ∈ ads) {v : Value} : Rw B (W.setCell ⟨a, o, none⟩ v) ads l y := h.put ha fun k hk => Below.heap_setCell W _ v k hk
theorem Rw.set4 {B : Nat} {W : World} {ads : List Nat} {l : List Nd} {y : Option Addr} (h : Rw B W ads l y) {a : Nat} (ha : a ∈ ads) {v0 v1 v2 v3 : Value} : Rw B ((((W.setCell ⟨a, 0, none⟩ v0).setCell ⟨a, 1, none⟩ v1).setCell ⟨a, 2, none⟩ v2).setCell ⟨a, 3, none⟩ v3) ads l y := (((h.set ha).set ha).set ha).set ha
theorem Rw.step {C : Ctx} {B : Nat} {W : World} {ads : List Nat} {l : List Nd} {y : Option Addr} (h : Rw B W ads l y) (hpb : C.pb < B) {v : Value} : Rw B (W.setCell ⟨C.pb, 2, none⟩ v) ads l y := h.call hpb ((Ow.refl _ _).setCell (a := ⟨C.pb, 2, none⟩) (.inl rfl) _)
theorem NSt.fresh {C : Ctx} {w W : World} {b : Bool} {p : Nat} {bs : List Bx} (h : NSt C w W b p bs) {k : Nat} (hk : W.heap.size ≤ k) : k ∉ bs.map (·.1) := fun hm => by
  obtain ⟨x, hx, e⟩ := List.mem_map.1 hm
  have := h.lt x hx
  omega
/-- What a method has told of lies in new blocks. -/
theorem NSt.row {C : Ctx} {w W W' : World} {b : Bool} {p B : Nat} {bs : List Bx} (h : NSt C w W b p bs) (hB : B ≤ W.heap.size) {l : List Nd} {y : Option Addr} (hk : NdRow W' (fun j => W.heap.size ≤ j) l y) : Rw B W' (bs.map (·.1)) l y :=
  hk.wide fun _ hk _ => ⟨Nat.le_trans hB hk, h.fresh hk⟩
theorem Rw.nil (B : Nat) (W : World) (ads : List Nat) (y : Option Addr) : Rw B W ads [] y := trivial
theorem Rw.one {C : Ctx} {w W : World} {b : Bool} {p B : Nat} {bs : List Bx} (h : NSt C w W b p bs) (hB : B ≤ W.heap.size) {k1 p1 : Int} {n1 : List UInt8} {l1 : List Nd} {y1 : Option Addr} {c1 : Nat} (h1 : Rw B W (bs.map (·.1)) l1 y1) :
    Rw B (W.alloc (.cells #[.int .i64 k1, .string ⟨n1.toArray⟩, .slice y1 l1.length c1, .int .i64 p1] 53)) (bs.map (·.1)) [.mk k1 n1 l1 p1] (some ⟨W.heap.size, 0, none⟩) :=
  NdRow.buildK (ok := fun j => B ≤ j ∧ j ∉ bs.map fun x : Bx => x.1) ⟨hB, h.fresh (Nat.le_refl _)⟩ (NFlat.one (NdRow.cells h1))
theorem Rw.two {C : Ctx} {w W : World} {b : Bool} {p B : Nat} {bs : List Bx} (h : NSt C w W b p bs) (hB : B ≤ W.heap.size) {k1 p1 k2 p2 : Int} {n1 n2 : List UInt8} {l1 l2 : List Nd} {y1 y2 : Option Addr} {c1 c2 : Nat} (h1 : Rw B W (bs.map (·.1)) l1 y1) (h2 : Rw B W (bs.map (·.1)) l2 y2) :
    Rw B (W.alloc (.cells #[.int .i64 k1, .string ⟨n1.toArray⟩, .slice y1 l1.length c1, .int .i64 p1, .int .i64 k2, .string ⟨n2.toArray⟩, .slice y2 l2.length c2, .int .i64 p2] 53)) (bs.map (·.1)) [.mk k1 n1 l1 p1, .mk k2 n2 l2 p2] (some ⟨W.heap.size, 0, none⟩) :=
  NdRow.buildK (ok := fun j => B ≤ j ∧ j ∉ bs.map fun x : Bx => x.1) ⟨hB, h.fresh (Nat.le_refl _)⟩ (NFlat.two (NdRow.cells h1) (NdRow.cells h2))
theorem Rw.three {C : Ctx} {w W : World} {b : Bool} {p B : Nat} {bs : List Bx} (h : NSt C w W b p bs) (hB : B ≤ W.heap.size) {k1 p1 k2 p2 k3 p3 : Int} {n1 n2 n3 : List UInt8} {l1 l2 l3 : List Nd} {y1 y2 y3 : Option Addr} {c1 c2 c3 : Nat} (h1 : Rw B W (bs.map (·.1)) l1 y1) (h2 : Rw B W (bs.map (·.1)) l2 y2) (h3 : Rw B W (bs.map (·.1)) l3 y3) :
    Rw B (W.alloc (.cells #[.int .i64 k1, .string ⟨n1.toArray⟩, .slice y1 l1.length c1, .int .i64 p1, .int .i64 k2, .string ⟨n2.toArray⟩, .slice y2 l2.length c2, .int .i64 p2, .int .i64 k3, .string ⟨n3.toArray⟩, .slice y3 l3.length c3, .int .i64 p3] 53)) (bs.map (·.1)) [.mk k1 n1 l1 p1, .mk k2 n2 l2 p2, .mk k3 n3 l3 p3] (some ⟨W.heap.size, 0, none⟩) :=
  NdRow.buildK (ok := fun j => B ≤ j ∧ j ∉ bs.map fun x : Bx => x.1) ⟨hB, h.fresh (Nat.le_refl _)⟩ (NFlat.three (NdRow.cells h1) (NdRow.cells h2) (NdRow.cells h3))
/-- The end: the node is told. -/
theorem NSt.fin {C : Ctx} {w W : World} {b b' : Bool} {p p' : Nat} {bs : List Bx} {R : Nat → Res Nd} {k pp : Int} {n : List UInt8} {l : List Nd} {y : Option Addr} {c : Nat} {ads : List Nat} {B : Nat} (h : NSt C w W b' p' bs) (hB : w.heap.size ≤ B) (hM : Mt (Tot R b p) b' p' (.mk k n l pp)) (hr : Rw B W ads l y) :
    RFinN C w R b p (.returned (.agg #[.int .i64 k, .string ⟨n.toArray⟩, .slice y l.length c, .int .i64 pp])) W :=
  ⟨b', p', k, n, l, pp, y, c, hM, rfl, hr.wide fun _ h _ => Nat.le_trans hB h.1, h.st, h.ow⟩
theorem nameN_tot (C : Ctx) (b : Bool) (p : Nat) : Tot (nameN C.ts C.s.size) b p = (Tot (nameP C.ts) b p).bind fun s q => .ok (.mk 10 s [] (placeT C.ts C.s.size p)) q := by cases b <;> rfl
theorem Box4.grown {W w6 : World} {nb : Nat} {v0 v1 v2 v3 : Value} {row : Option Nat} (h : Box4 W nb v0 v1 v2 v3) (hg : W.grownBy w6 row) (hn : ∀ j, row = some j → nb ≠ j) : Box4 w6 nb v0 v1 v2 v3 :=
  (hg.block nb h.lt (fun e => hn nb e.symm rfl)).trans h

theorem NSt.sub {C : Ctx} {w W : World} {b : Bool} {p : Nat} {bs bs' : List Bx} (h : NSt C w W b p bs) (hs : List.Sublist bs' bs) : NSt C w W b p bs' :=
  ⟨h.st, h.ow, h.pb, h.xl, fun x hx => h.bx x (hs.subset hx), h.dis.sublist (hs.map _)⟩
/-- What is known behind an append to the row of the node that is put together. -/
theorem NSt.app {C : Ctx} {w w5 W w6 : World} {b : Bool} {p B S : Nat} {bs : List Bx} {v v' : Value} {acc : List Nd} {k : Int} {n : List UInt8} {kids : List Nd} {pp : Int} {y : Option Addr} {c : Nat} {xs : List Value}
    (h : NSt C w w5 b p bs) (hl : ∀ x ∈ bs, x.1 < B) (hwB : w.heap.size ≤ B) (hW : Below w5.heap.size w5 W)
    (hown : w5.ownsRow B 53 4 v acc.length xs) (hf : NFlat w5 (fun j => B ≤ j ∧ some j ≠ v.ownBlock) acc xs) (hk : NdRow w5 (fun j => S ≤ j) kids y) (hS : ∀ j, v.ownBlock = some j → j < S) (hBS : B ≤ S)
    (hown' : w6.ownsRow B 53 4 v' (acc.length + 1) (xs ++ [.int .i64 k, .string ⟨n.toArray⟩, .slice y kids.length c, .int .i64 pp])) (hgrow : W.grownBy w6 v.ownBlock) (hfresh : v'.ownBlock = v.ownBlock ∨ ∀ k, v'.ownBlock = some k → W.heap.size ≤ k) :
    ∃ va vc, v' = .slice va (acc.length + 1) vc ∧ NSt C w w6 b p bs ∧ RowOwn w6 B v' (acc ++ [Nd.mk k n kids pp]) := by
  obtain ⟨h1, h2, h3⟩ := app_step (w := w) (fun g i u hu hx => Nat.lt_of_lt_of_le (h.xl g i u hu hx) hwB) (Nat.lt_of_lt_of_le h.pb hwB) h.st h.ow hwB hW hown hf hk hS hBS hown' hgrow hfresh
  obtain ⟨va, vc, e, _, _⟩ := h2.shape
  refine ⟨va, vc, by simpa using e, ⟨h1, h3, h.pb, h.xl, fun x hx => ⟨(h.bx x hx).1, ?_⟩, h.dis⟩, h2⟩
  have hb := (h.bx x hx).2
  exact Box4.grown ((hW.block _ hb.lt).trans hb : Box4 W x.1 _ _ _ _) hgrow fun j hj => by have := (hown.lt j hj).1; have := hl x hx; omega
theorem RowOwn.rw {W : World} {B : Nat} {v : Value} {l : List Nd} {ads : List Nat} (h : RowOwn W B v l) (ha : ∀ a ∈ ads, a < B) : ∃ va vc, v = .slice va l.length vc ∧ Rw B W ads l va := by
  obtain ⟨va, vc, e, _, hr⟩ := h.shape
  exact ⟨va, vc, e, hr.wide fun k hk _ => ⟨hk, fun hm => by have := ha k hm; omega⟩⟩
theorem RowOwn.set {W : World} {B a o : Nat} {u v : Value} {l : List Nd} (h : RowOwn W B v l) (ha : a < B) : RowOwn (W.setCell ⟨a, o, none⟩ u) B v l :=
  h.ow ((Ow.refl a W).setCell (a := ⟨a, o, none⟩) (.inl rfl) u) ha
theorem RowOwn.two {w : World} {B : Nat} (hB : B ≤ w.heap.size) {k1 k2 : Int} {n1 n2 : List UInt8} {l1 l2 : List Nd} {p1 p2 : Int} {y1 y2 : Option Addr} {c1 c2 : Nat} (h1 : NdRow w (fun b => B ≤ b) l1 y1) (h2 : NdRow w (fun b => B ≤ b) l2 y2) :
    RowOwn (w.alloc (.cells #[.int .i64 k1, .string ⟨n1.toArray⟩, .slice y1 l1.length c1, .int .i64 p1, .int .i64 k2, .string ⟨n2.toArray⟩, .slice y2 l2.length c2, .int .i64 p2] 53)) B (.slice (some ⟨w.heap.size, 0, none⟩) 2 2) [.mk k1 n1 l1 p1, .mk k2 n2 l2 p2] := by
  refine ⟨[.int .i64 k1, .string ⟨n1.toArray⟩, .slice y1 l1.length c1, .int .i64 p1, .int .i64 k2, .string ⟨n2.toArray⟩, .slice y2 l2.length c2, .int .i64 p2], ⟨rfl, .inr ⟨w.heap.size, 2, _, rfl, hB, heap_alloc_new w _, by simp, by unfold maxLen; omega, rfl, rfl⟩⟩, ?_⟩
  have g : ∀ {l : List Nd} {y : Option Addr}, NdRow w (fun b => B ≤ b) l y → NdRow (w.alloc (.cells #[.int .i64 k1, .string ⟨n1.toArray⟩, .slice y1 l1.length c1, .int .i64 p1, .int .i64 k2, .string ⟨n2.toArray⟩, .slice y2 l2.length c2, .int .i64 p2] 53)) (fun k => B ≤ k ∧ some k ≠ (Value.slice (some ⟨w.heap.size, 0, none⟩) 2 2).ownBlock) l y := fun h => by
    refine NdRow.mono (fun b h1 h2 => ⟨h1, ?_⟩) (fun b _ h2 => Below.heap_alloc w _ b h2) _ _ h
    simp [Value.ownBlock]
    omega
  exact NFlat.two (NdRow.cells (g h1)) (NdRow.cells (g h2))
theorem Rw.raw {B : Nat} {W : World} {ads : List Nat} {l : List Nd} {y : Option Addr} (h : Rw B W ads l y) : NdRow W (fun j => B ≤ j) l y := NdRow.wide h fun _ h _ => h.1
theorem Rw.of_own {W : World} {B n : Nat} {a : Option Addr} {m c : Nat} {l : List Nd} {ads : List Nat} (h : RowOwn W B (.slice a m c) l) (ha : ∀ x ∈ ads, x < B) : Rw B W ads l a ∧ (m = n → n = l.length) := by
  obtain ⟨va, vc, e, hr⟩ := h.rw ha
  simp only [Value.slice.injEq] at e
  obtain ⟨rfl, rfl, rfl⟩ := e
  exact ⟨hr, fun h => h.symm⟩
end Go.Proofs.YtpbkeamjdolpgaaGreatDoor
