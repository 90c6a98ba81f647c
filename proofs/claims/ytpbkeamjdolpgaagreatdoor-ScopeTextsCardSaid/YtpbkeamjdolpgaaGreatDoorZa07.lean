/- A node that the reference's parser puts together: what is known between two steps. The walk of the reference's expressions. The walk of the reference's atoms. The walks of the reference's parameters and blocks. The walk of the reference's statements. -/
import Derived.Test.YtpbkeamjdolpgaaGreatDoorZa06
import Derived.Deep.Cut
namespace Go.Proofs.YtpbkeamjdolpgaaGreatDoor
open Go.RowKit Go.Lib Go.Shelf
theorem cp_le {n : Nat} (c : Cp n) : n ≤ c.val := c.2
theorem RowOwn.cap {W : World} {B m c : Nat} {a : Option Addr} {l : List Nd} (h : RowOwn W B (.slice a m c) l) : l.length ≤ c := by
  obtain ⟨va, vc, e, hc, _⟩ := h.shape
  simp only [Value.slice.injEq] at e
  obtain ⟨-, -, rfl⟩ := e
  exact hc
theorem hj {p : Prop} (h : p) : Hid p := Lib.hid h
abbrev S4 (W : World) (a : Nat) (v0 v1 v2 v3 : Value) : World := (((W.setCell ⟨a, 0, none⟩ v0).setCell ⟨a, 1, none⟩ v1).setCell ⟨a, 2, none⟩ v2).setCell ⟨a, 3, none⟩ v3
def Hold (p : Prop) : Prop := p
theorem Hold.out {p : Prop} (h : Hold p) : p := h
theorem Hold.put {p : Prop} (h : p) : Hold p := h
abbrev Bx := Nat × Value × Value × Value × Value
abbrev zB (a : Nat) : Bx := (a, .int .i64 0, .string ⟨#[]⟩, .slice none 0 0, .int .i64 0)
abbrev nB (a : Nat) (k : Int) (n : List UInt8) (y : Option Addr) (l : List Nd) (c : Nat) (p : Int) : Bx := (a, .int .i64 k, .string ⟨n.toArray⟩, .slice y l.length c, .int .i64 p)
structure NSt (C : Ctx) (w W : World) (b : Bool) (p : Nat) (bs : List Bx) : Prop where
  st : RSt C W b p
  ow : Ow C.pb w W
  pb : C.pb < w.heap.size
  xl : ∀ (g i : Nat) (u : Tk), C.ts[i]? = some u → C.x = some ⟨g, 0, none⟩ → g < w.heap.size
  bx : ∀ x ∈ bs, w.heap.size ≤ x.1 ∧ Box4 W x.1 x.2.1 x.2.2.1 x.2.2.2.1 x.2.2.2.2
  dis : (bs.map (·.1)).Pairwise (· ≠ ·)
def Rw (B : Nat) (W : World) (ads : List Nat) (l : List Nd) (y : Option Addr) : Prop := NdRow W (fun j => B ≤ j ∧ j ∉ ads) l y
theorem NSt.start {C : Ctx} {w : World} {b : Bool} {p : Nat} (h : RSt C w b p) : NSt C w w b p [] := ⟨h, Ow.refl _ _, h.lt, h.xlt, by simp, by simp⟩
theorem NSt.call {C : Ctx} {w W W' : World} {b b' : Bool} {p p' : Nat} {bs : List Bx} (h : NSt C w W b p bs) (hs : RSt C W' b' p') (ho : Ow C.pb W W') : NSt C w W' b' p' bs :=
  ⟨hs, h.ow.trans ho, h.pb, h.xl, fun x hx => ⟨(h.bx x hx).1, (h.bx x hx).2.ow ho (by have := (h.bx x hx).1; have := h.pb; omega)⟩, h.dis⟩
theorem NSt.below {C : Ctx} {w W W' : World} {b : Bool} {p : Nat} {bs : List Bx} (h : NSt C w W b p bs) (hb : Below W.heap.size W W') : NSt C w W' b p bs := h.call (h.st.below hb) (Ow.of_below hb)
theorem NSt.blk {C : Ctx} {w W : World} {b : Bool} {p : Nat} {bs : List Bx} (h : NSt C w W b p bs) (o : Obj) : NSt C w (W.alloc o) b p bs := h.below ((Below.refl _ _).alloc (Nat.le_refl _) _)
theorem NSt.lt {C : Ctx} {w W : World} {b : Bool} {p : Nat} {bs : List Bx} (h : NSt C w W b p bs) : ∀ x ∈ bs, x.1 < W.heap.size := fun x hx => (h.bx x hx).2.lt
theorem NSt.alloc {C : Ctx} {w W : World} {b : Bool} {p : Nat} {bs : List Bx} (h : NSt C w W b p bs) (v0 v1 v2 v3 : Value) : NSt C w (W.alloc (.cells #[v0, v1, v2, v3] 53)) b p ((W.heap.size, v0, v1, v2, v3) :: bs) :=
  ⟨(h.blk _).st, (h.blk _).ow, h.pb, h.xl, fun x hx => by
    rcases List.mem_cons.1 hx with rfl | hx
    · exact ⟨h.ow.size, Box4.new _ _ _ _ _⟩
    · exact (h.blk _).bx x hx, by
    simp only [List.map_cons, List.pairwise_cons]
    refine ⟨fun a ha e => ?_, h.dis⟩
    obtain ⟨x, hx, rfl⟩ := List.mem_map.1 ha
    have := h.lt x hx
    omega⟩
theorem NSt.step {C : Ctx} {w W : World} {p : Nat} {bs : List Bx} (h : NSt C w W false p bs) {q : Nat} (hq : q ≤ C.ts.length) : NSt C w (W.setCell ⟨C.pb, 2, none⟩ (.int .i64 q)) false q bs :=
  h.call (h.st.step hq) ((Ow.refl _ _).setCell (a := ⟨C.pb, 2, none⟩) (.inl rfl) _)
theorem NSt.put {C : Ctx} {w W W' : World} {b : Bool} {p : Nat} {pre post : List Bx} {x x' : Bx} (h : NSt C w W b p (pre ++ x :: post)) (hx : x'.1 = x.1) (hW : Ow x.1 W W') (hk : ∀ k, k ≠ x.1 → W'.heap[k]? = W.heap[k]?) (hB : Box4 W' x.1 x'.2.1 x'.2.2.1 x'.2.2.2.1 x'.2.2.2.2) :
    NSt C w W' b p (pre ++ x' :: post) := by
  have AA := h.bx x (by simp)
  have hd : ∀ y ∈ pre ++ post, y.1 ≠ x.1 := by
    have h1 := h.dis
    rw [List.map_append, List.map_cons, List.pairwise_append, List.pairwise_cons] at h1
    intro y hy
    rcases List.mem_append.1 hy with hy | hy
    · exact h1.2.2 _ (List.mem_map.2 ⟨y, hy, rfl⟩) _ (by simp)
    · exact (h1.2.1.1 _ (List.mem_map.2 ⟨y, hy, rfl⟩)).symm
  refine ⟨h.st.turn (fun g i u hu e => by have := h.xl g i u hu e; omega) (by have := h.pb; omega) AA.2 (by decide) fun k _ hn => hk k hn, ?_, h.pb, h.xl, ?_, ?_⟩
  · exact ⟨hW.os.trans h.ow.os, hW.tape.trans h.ow.tape, hW.output.trans h.ow.output, Nat.le_trans h.ow.size hW.size, fun k BA hn => (hk k (by omega)).trans (h.ow.block k BA hn)⟩
  · intro y hy
    rcases List.mem_append.1 hy with hy | hy
    · have h1 := h.bx y (by simp [hy])
      have h2 := hd y (by simp [hy])
      exact ⟨h1.1, (hk _ h2).trans h1.2⟩
    · rcases List.mem_cons.1 hy with rfl | hy
      · exact ⟨by rw [hx]; exact AA.1, by rw [hx]; exact hB⟩
      · have h1 := h.bx y (by simp [hy])
        have h2 := hd y (by simp [hy])
        exact ⟨h1.1, (hk _ h2).trans h1.2⟩
  · have h1 := h.dis
    rw [List.map_append, List.map_cons] at h1 ⊢
    rw [hx]
    exact h1
theorem NSt.set0 {C : Ctx} {w W : World} {b : Bool} {p : Nat} {pre post : List Bx} {a : Nat} {v0 v1 v2 v3 v : Value} (h : NSt C w W b p (pre ++ (a, v0, v1, v2, v3) :: post)) : NSt C w (W.setCell ⟨a, 0, none⟩ v) b p (pre ++ (a, v, v1, v2, v3) :: post) :=
  h.put rfl ((Ow.refl _ _).setCell (a := ⟨a, 0, none⟩) (.inl rfl) _) (fun k hk => Below.heap_setCell W _ v k hk) (h.bx _ (by simp)).2.set0
theorem NSt.set1 {C : Ctx} {w W : World} {b : Bool} {p : Nat} {pre post : List Bx} {a : Nat} {v0 v1 v2 v3 v : Value} (h : NSt C w W b p (pre ++ (a, v0, v1, v2, v3) :: post)) : NSt C w (W.setCell ⟨a, 1, none⟩ v) b p (pre ++ (a, v0, v, v2, v3) :: post) :=
  h.put rfl ((Ow.refl _ _).setCell (a := ⟨a, 1, none⟩) (.inl rfl) _) (fun k hk => Below.heap_setCell W _ v k hk) (h.bx _ (by simp)).2.set1
theorem NSt.set2 {C : Ctx} {w W : World} {b : Bool} {p : Nat} {pre post : List Bx} {a : Nat} {v0 v1 v2 v3 v : Value} (h : NSt C w W b p (pre ++ (a, v0, v1, v2, v3) :: post)) : NSt C w (W.setCell ⟨a, 2, none⟩ v) b p (pre ++ (a, v0, v1, v, v3) :: post) :=
  h.put rfl ((Ow.refl _ _).setCell (a := ⟨a, 2, none⟩) (.inl rfl) _) (fun k hk => Below.heap_setCell W _ v k hk) (h.bx _ (by simp)).2.set2
theorem NSt.set3 {C : Ctx} {w W : World} {b : Bool} {p : Nat} {pre post : List Bx} {a : Nat} {v0 v1 v2 v3 v : Value} (h : NSt C w W b p (pre ++ (a, v0, v1, v2, v3) :: post)) : NSt C w (W.setCell ⟨a, 3, none⟩ v) b p (pre ++ (a, v0, v1, v2, v) :: post) :=
  h.put rfl ((Ow.refl _ _).setCell (a := ⟨a, 3, none⟩) (.inl rfl) _) (fun k hk => Below.heap_setCell W _ v k hk) (h.bx _ (by simp)).2.set3
theorem NSt.set4 {C : Ctx} {w W : World} {b : Bool} {p : Nat} {pre post : List Bx} {a : Nat} {v0 v1 v2 v3 u0 u1 u2 u3 : Value} (h : NSt C w W b p (pre ++ (a, v0, v1, v2, v3) :: post)) :
    NSt C w ((((W.setCell ⟨a, 0, none⟩ u0).setCell ⟨a, 1, none⟩ u1).setCell ⟨a, 2, none⟩ u2).setCell ⟨a, 3, none⟩ u3) b p (pre ++ (a, u0, u1, u2, u3) :: post) :=
  h.set0.set1.set2.set3
theorem NSt.at_ {C : Ctx} {w W : World} {b : Bool} {p : Nat} {bs : List Bx} (h : NSt C w W b p bs) {x : Bx} (hx : x ∈ bs) : BoxF W x.1 x.2.1 x.2.2.1 x.2.2.2.1 x.2.2.2.2 := (h.bx x hx).2.facts
theorem Rw.call {C : Ctx} {B : Nat} {W W' : World} {ads : List Nat} {l : List Nd} {y : Option Addr} (h : Rw B W ads l y) (hpb : C.pb < B) (ho : Ow C.pb W W') : Rw B W' ads l y := NdRow.ow h ho fun k hk => by have := hk.1; omega
theorem Rw.alloc {B : Nat} {W : World} {ads : List Nat} {l : List Nd} {y : Option Addr} (h : Rw B W ads l y) (o : Obj) : Rw B (W.alloc o) (W.heap.size :: ads) l y :=
  NdRow.mono (fun k hk hlt => ⟨hk.1, by simp; exact ⟨by omega, hk.2⟩⟩) (fun k _ hlt => Below.heap_alloc W o k hlt) l y h
theorem Rw.put {B : Nat} {W W' : World} {ads : List Nat} {l : List Nd} {y : Option Addr} (h : Rw B W ads l y) {a : Nat} (ha : a ∈ ads) (hk : ∀ k, k ≠ a → W'.heap[k]? = W.heap[k]?) : Rw B W' ads l y :=
  NdRow.mono (fun _ h _ => h) (fun k h1 _ => hk k (fun e => h1.2 (by rw [e]; exact ha))) l y h
theorem Rw.set {B : Nat} {W : World} {ads : List Nat} {l : List Nd} {y : Option Addr} (h : Rw B W ads l y) {a o : Nat} (ha : a ∈ ads) {v : Value} : Rw B (W.setCell ⟨a, o, none⟩ v) ads l y := h.put ha fun k hk => Below.heap_setCell W _ v k hk
theorem Rw.set4 {B : Nat} {W : World} {ads : List Nat} {l : List Nd} {y : Option Addr} (h : Rw B W ads l y) {a : Nat} (ha : a ∈ ads) {v0 v1 v2 v3 : Value} : Rw B ((((W.setCell ⟨a, 0, none⟩ v0).setCell ⟨a, 1, none⟩ v1).setCell ⟨a, 2, none⟩ v2).setCell ⟨a, 3, none⟩ v3) ads l y := (((h.set ha).set ha).set ha).set ha
theorem Rw.step {C : Ctx} {B : Nat} {W : World} {ads : List Nat} {l : List Nd} {y : Option Addr} (h : Rw B W ads l y) (hpb : C.pb < B) {v : Value} : Rw B (W.setCell ⟨C.pb, 2, none⟩ v) ads l y := h.call hpb ((Ow.refl _ _).setCell (a := ⟨C.pb, 2, none⟩) (.inl rfl) _)
theorem NSt.fresh {C : Ctx} {w W : World} {b : Bool} {p : Nat} {bs : List Bx} (h : NSt C w W b p bs) {k : Nat} (hk : W.heap.size ≤ k) : k ∉ bs.map (·.1) := fun hm => by
  obtain ⟨x, hx, e⟩ := List.mem_map.1 hm
  have := h.lt x hx
  omega
theorem NSt.row {C : Ctx} {w W W' : World} {b : Bool} {p B : Nat} {bs : List Bx} (h : NSt C w W b p bs) (hB : B ≤ W.heap.size) {l : List Nd} {y : Option Addr} (hk : NdRow W' (fun j => W.heap.size ≤ j) l y) : Rw B W' (bs.map (·.1)) l y :=
  hk.wide fun _ hk _ => ⟨Nat.le_trans hB hk, h.fresh hk⟩
theorem Rw.nil (B : Nat) (W : World) (ads : List Nat) (y : Option Addr) : Rw B W ads [] y := trivial
theorem Rw.one {C : Ctx} {w W : World} {b : Bool} {p B : Nat} {bs : List Bx} (h : NSt C w W b p bs) (hB : B ≤ W.heap.size) {k1 p1 : Int} {n1 : List UInt8} {l1 : List Nd} {y1 : Option Addr} {c1 : Nat} (h1 : Rw B W (bs.map (·.1)) l1 y1) (AA : l1.length ≤ c1 := by first | exact cp_le _ | assumption | exact Nat.le_refl _ | exact Nat.zero_le _) :
    Rw B (W.alloc (.cells #[.int .i64 k1, .string ⟨n1.toArray⟩, .slice y1 l1.length c1, .int .i64 p1] 53)) (bs.map (·.1)) [.mk k1 n1 l1 p1] (some ⟨W.heap.size, 0, none⟩) :=
  NdRow.buildK (ok := fun j => B ≤ j ∧ j ∉ bs.map fun x : Bx => x.1) ⟨hB, h.fresh (Nat.le_refl _)⟩ (NFlat.one (NdRow.cells (c := ⟨c1, AA⟩) h1))
theorem Rw.two {C : Ctx} {w W : World} {b : Bool} {p B : Nat} {bs : List Bx} (h : NSt C w W b p bs) (hB : B ≤ W.heap.size) {k1 p1 k2 p2 : Int} {n1 n2 : List UInt8} {l1 l2 : List Nd} {y1 y2 : Option Addr} {c1 c2 : Nat} (h1 : Rw B W (bs.map (·.1)) l1 y1) (h2 : Rw B W (bs.map (·.1)) l2 y2) (AA : l1.length ≤ c1 := by first | exact cp_le _ | assumption | exact Nat.le_refl _ | exact Nat.zero_le _) (BA : l2.length ≤ c2 := by first | exact cp_le _ | assumption | exact Nat.le_refl _ | exact Nat.zero_le _) :
    Rw B (W.alloc (.cells #[.int .i64 k1, .string ⟨n1.toArray⟩, .slice y1 l1.length c1, .int .i64 p1, .int .i64 k2, .string ⟨n2.toArray⟩, .slice y2 l2.length c2, .int .i64 p2] 53)) (bs.map (·.1)) [.mk k1 n1 l1 p1, .mk k2 n2 l2 p2] (some ⟨W.heap.size, 0, none⟩) :=
  NdRow.buildK (ok := fun j => B ≤ j ∧ j ∉ bs.map fun x : Bx => x.1) ⟨hB, h.fresh (Nat.le_refl _)⟩ (NFlat.two (NdRow.cells (c := ⟨c1, AA⟩) h1) (NdRow.cells (c := ⟨c2, BA⟩) h2))
theorem Rw.three {C : Ctx} {w W : World} {b : Bool} {p B : Nat} {bs : List Bx} (h : NSt C w W b p bs) (hB : B ≤ W.heap.size) {k1 p1 k2 p2 k3 p3 : Int} {n1 n2 n3 : List UInt8} {l1 l2 l3 : List Nd} {y1 y2 y3 : Option Addr} {c1 c2 c3 : Nat} (h1 : Rw B W (bs.map (·.1)) l1 y1) (h2 : Rw B W (bs.map (·.1)) l2 y2) (h3 : Rw B W (bs.map (·.1)) l3 y3) (AA : l1.length ≤ c1 := by first | exact cp_le _ | assumption | exact Nat.le_refl _ | exact Nat.zero_le _) (BA : l2.length ≤ c2 := by first | exact cp_le _ | assumption | exact Nat.le_refl _ | exact Nat.zero_le _) (CA : l3.length ≤ c3 := by first | exact cp_le _ | assumption | exact Nat.le_refl _ | exact Nat.zero_le _) :
    Rw B (W.alloc (.cells #[.int .i64 k1, .string ⟨n1.toArray⟩, .slice y1 l1.length c1, .int .i64 p1, .int .i64 k2, .string ⟨n2.toArray⟩, .slice y2 l2.length c2, .int .i64 p2, .int .i64 k3, .string ⟨n3.toArray⟩, .slice y3 l3.length c3, .int .i64 p3] 53)) (bs.map (·.1)) [.mk k1 n1 l1 p1, .mk k2 n2 l2 p2, .mk k3 n3 l3 p3] (some ⟨W.heap.size, 0, none⟩) :=
  NdRow.buildK (ok := fun j => B ≤ j ∧ j ∉ bs.map fun x : Bx => x.1) ⟨hB, h.fresh (Nat.le_refl _)⟩ (NFlat.three (NdRow.cells (c := ⟨c1, AA⟩) h1) (NdRow.cells (c := ⟨c2, BA⟩) h2) (NdRow.cells (c := ⟨c3, CA⟩) h3))
theorem NSt.fin {C : Ctx} {w W : World} {b b' : Bool} {p p' : Nat} {bs : List Bx} {R : Nat → Res Nd} {k pp : Int} {n : List UInt8} {l : List Nd} {y : Option Addr} {c : Nat} {ads : List Nat} {B : Nat} (h : NSt C w W b' p' bs) (hB : w.heap.size ≤ B) (hM : Mt (Tot R b p) b' p' (.mk k n l pp)) (hr : Rw B W ads l y) (hc : l.length ≤ c := by first | exact cp_le _ | assumption | exact Nat.le_refl _ | exact Nat.zero_le _) :
    RFinN C w R b p (.returned (.agg #[.int .i64 k, .string ⟨n.toArray⟩, .slice y l.length c, .int .i64 pp])) W :=
  ⟨b', p', k, n, l, pp, y, ⟨c, hc⟩, hM, rfl, hr.wide fun _ h _ => Nat.le_trans hB h.1, h.st, h.ow⟩
theorem nameN_tot (C : Ctx) (b : Bool) (p : Nat) : Tot (nameN C.ts C.s.size) b p = (Tot (nameP C.ts) b p).bind fun s q => .ok (.mk 10 s [] (placeT C.ts C.s.size p)) q := by cases b <;> rfl
theorem Box4.grown {W w6 : World} {nb : Nat} {v0 v1 v2 v3 : Value} {row : Option Nat} (h : Box4 W nb v0 v1 v2 v3) (hg : W.grownBy w6 row) (hn : ∀ j, row = some j → nb ≠ j) : Box4 w6 nb v0 v1 v2 v3 :=
  (hg.block nb h.lt (fun e => hn nb e.symm rfl)).trans h
theorem NSt.sub {C : Ctx} {w W : World} {b : Bool} {p : Nat} {bs bs' : List Bx} (h : NSt C w W b p bs) (hs : List.Sublist bs' bs) : NSt C w W b p bs' :=
  ⟨h.st, h.ow, h.pb, h.xl, fun x hx => h.bx x (hs.subset hx), h.dis.sublist (hs.map _)⟩
theorem NSt.app {C : Ctx} {w w5 W w6 : World} {b : Bool} {p B S : Nat} {bs : List Bx} {v v' : Value} {acc : List Nd} {k : Int} {n : List UInt8} {kids : List Nd} {pp : Int} {y : Option Addr} {c : Nat} {xs : List Value}
    (h : NSt C w w5 b p bs) (hl : ∀ x ∈ bs, x.1 < B) (hwB : w.heap.size ≤ B) (hW : Below w5.heap.size w5 W)
    (hown : w5.ownsRow B 53 4 v acc.length xs) (hf : NFlat w5 (fun j => B ≤ j ∧ some j ≠ v.ownBlock) acc xs) (hk : NdRow w5 (fun j => S ≤ j) kids y) (hS : ∀ j, v.ownBlock = some j → j < S) (hBS : B ≤ S)
    (hown' : w6.ownsRow B 53 4 v' (acc.length + 1) (xs ++ [.int .i64 k, .string ⟨n.toArray⟩, .slice y kids.length c, .int .i64 pp])) (hgrow : W.grownBy w6 v.ownBlock) (hfresh : v'.ownBlock = v.ownBlock ∨ ∀ k, v'.ownBlock = some k → W.heap.size ≤ k) (hc : kids.length ≤ c := by first | exact cp_le _ | assumption | exact Nat.le_refl _ | exact Nat.zero_le _) :
    ∃ va vc, v' = .slice va (acc.length + 1) vc ∧ NSt C w w6 b p bs ∧ RowOwn w6 B v' (acc ++ [Nd.mk k n kids pp]) := by
  obtain ⟨h1, h2, h3⟩ := app_step (w := w) (c := ⟨c, hc⟩) (fun g i u hu hx => Nat.lt_of_lt_of_le (h.xl g i u hu hx) hwB) (Nat.lt_of_lt_of_le h.pb hwB) h.st h.ow hwB hW hown hf hk hS hBS hown' hgrow hfresh
  obtain ⟨va, vc, e, _, _⟩ := h2.shape
  refine ⟨va, vc, by simpa using e, ⟨h1, h3, h.pb, h.xl, fun x hx => ⟨(h.bx x hx).1, ?_⟩, h.dis⟩, h2⟩
  have hb := (h.bx x hx).2
  exact Box4.grown ((hW.block _ hb.lt).trans hb : Box4 W x.1 _ _ _ _) hgrow fun j hj => by have := (hown.lt j hj).1; have := hl x hx; omega
theorem RowOwn.rw {W : World} {B : Nat} {v : Value} {l : List Nd} {ads : List Nat} (h : RowOwn W B v l) (ha : ∀ a ∈ ads, a < B) : ∃ va vc, v = .slice va l.length vc ∧ Rw B W ads l va := by
  obtain ⟨va, vc, e, _, hr⟩ := h.shape
  exact ⟨va, vc, e, hr.wide fun k hk _ => ⟨hk, fun hm => by have := ha k hm; omega⟩⟩
theorem RowOwn.set {W : World} {B a o : Nat} {u v : Value} {l : List Nd} (h : RowOwn W B v l) (ha : a < B) : RowOwn (W.setCell ⟨a, o, none⟩ u) B v l :=
  h.ow ((Ow.refl a W).setCell (a := ⟨a, o, none⟩) (.inl rfl) u) ha
theorem RowOwn.two {w : World} {B : Nat} (hB : B ≤ w.heap.size) {k1 k2 : Int} {n1 n2 : List UInt8} {l1 l2 : List Nd} {p1 p2 : Int} {y1 y2 : Option Addr} {c1 c2 : Nat} (h1 : NdRow w (fun b => B ≤ b) l1 y1) (h2 : NdRow w (fun b => B ≤ b) l2 y2) (AA : l1.length ≤ c1 := by first | exact cp_le _ | assumption | exact Nat.le_refl _ | exact Nat.zero_le _) (BA : l2.length ≤ c2 := by first | exact cp_le _ | assumption | exact Nat.le_refl _ | exact Nat.zero_le _) :
    RowOwn (w.alloc (.cells #[.int .i64 k1, .string ⟨n1.toArray⟩, .slice y1 l1.length c1, .int .i64 p1, .int .i64 k2, .string ⟨n2.toArray⟩, .slice y2 l2.length c2, .int .i64 p2] 53)) B (.slice (some ⟨w.heap.size, 0, none⟩) 2 2) [.mk k1 n1 l1 p1, .mk k2 n2 l2 p2] := by
  refine ⟨[.int .i64 k1, .string ⟨n1.toArray⟩, .slice y1 l1.length c1, .int .i64 p1, .int .i64 k2, .string ⟨n2.toArray⟩, .slice y2 l2.length c2, .int .i64 p2], ⟨rfl, .inr ⟨w.heap.size, 2, _, rfl, hB, heap_alloc_new w _, by simp, by unfold maxLen; omega, rfl, rfl⟩⟩, ?_⟩
  have g : ∀ {l : List Nd} {y : Option Addr}, NdRow w (fun b => B ≤ b) l y → NdRow (w.alloc (.cells #[.int .i64 k1, .string ⟨n1.toArray⟩, .slice y1 l1.length c1, .int .i64 p1, .int .i64 k2, .string ⟨n2.toArray⟩, .slice y2 l2.length c2, .int .i64 p2] 53)) (fun k => B ≤ k ∧ some k ≠ (Value.slice (some ⟨w.heap.size, 0, none⟩) 2 2).ownBlock) l y := fun h => by
    refine NdRow.mono (fun b h1 h2 => ⟨h1, ?_⟩) (fun b _ h2 => Below.heap_alloc w _ b h2) _ _ h
    simp [Value.ownBlock]
    omega
  exact NFlat.two (NdRow.cells (c := ⟨c1, AA⟩) (g h1)) (NdRow.cells (c := ⟨c2, BA⟩) (g h2))
theorem Rw.raw {B : Nat} {W : World} {ads : List Nat} {l : List Nd} {y : Option Addr} (h : Rw B W ads l y) : NdRow W (fun j => B ≤ j) l y := NdRow.wide h fun _ h _ => h.1
theorem Rw.of_own {W : World} {B n : Nat} {a : Option Addr} {m c : Nat} {l : List Nd} {ads : List Nat} (h : RowOwn W B (.slice a m c) l) (ha : ∀ x ∈ ads, x < B) : Rw B W ads l a ∧ (m = n → n = l.length) := by
  obtain ⟨va, vc, e, hr⟩ := h.rw ha
  simp only [Value.slice.injEq] at e
  obtain ⟨rfl, rfl, rfl⟩ := e
  exact ⟨hr, fun h => h.symm⟩
theorem take_t {ts : List Tk} {L : Nat} {s : List UInt8} {p p' a : Nat} {b' : Bool} (hi : isT ts p s = true) (h : Mt (Tot (takeP ts L s) false p) b' p' a) : b' = false ∧ p' = p + 1 := by
  rw [tot_go, takeP, if_pos hi] at h
  exact ⟨h.1, h.2.1⟩
set_option maxHeartbeats 4000000 in
set_option maxRecDepth 100000 in
theorem rexpr_any (C : Ctx) (ex : Nat → Res Nd) (hx : ROneQ C 87 ex) (f : Nat) (_hf : f ≤ 8192) (hl : ∀ w b p, RSt C w b p → Tot (levO C.ts C.s.size ex f 5) b p ≠ .out → Calls Tryz.prog 143 #[.pointer (some ⟨C.pb, 0, none⟩), .int .i64 0] w (RFinN C w (levO C.ts C.s.size ex f 5) b p)) : ROne C 87 (exprO C.ts C.s.size ex f) := by
  intro w b p h hne
  obtain ⟨R, hR⟩ : ∃ R, Tot (exprO C.ts C.s.size ex f) b p = R := ⟨_, rfl⟩
  have hT : R = (Tot (levO C.ts C.s.size ex f 5) b p).bind fun x q => if isT C.ts q [63] then (ex (q + 1)).bind fun y r => (takeP C.ts C.s.size [58] r).bind fun _ r' => (ex r').bind fun z e => .ok (.mk 15 [] [x, y, z] (placeT C.ts C.s.size q)) e else .ok x q := by
    rw [← hR, ← tot_bind]
    rfl
  rw [hR] at hne
  have HR := hj hR
  have HT := hj hT
  have HNE := hj hne
  have HHX := hj hx
  have HHL := hj hl
  have FB : Hid (NSt C w w b p []) := NSt.start h
  clear hR hT hne h hx hl
  go_enter Tryz.func87, Tryz.ntmps87
  go_upto_region 1 with (fail)
  have dA : Hid (NSt C w (World.alloc w (.cells #[.int .i64 0, .string ⟨#[]⟩, .slice none 0 0, .int .i64 0] 53)) b p [zB w.heap.size]) := hj (FB.out.alloc _ _ _ _)
  clear FB
  generalize World.alloc w (.cells #[.int .i64 0, .string ⟨#[]⟩, .slice none 0 0, .int .i64 0] 53) = HC at dA ⊢
  have GB := HHL.out _ _ _ dA.out.st (fun e => HNE.out (by rw [HT.out, e]; rfl))
  unfold RFinN at GB
  go_wp2_with fail
  (with_reducible refine GB.mono ?_)
  clear GB
  rintro e DA ⟨aA, XA, EA, CA, BA, AA, FA, GA, HB, rfl, IB, JB, KB⟩
  have LB : Hid (NSt C w DA aA XA [zB w.heap.size]) := hj (dA.out.call JB KB)
  have MB : Hid (Rw w.heap.size DA [w.heap.size] BA FA) := hj (dA.out.row dA.out.ow.size IB)
  clear dA KB JB IB
  have KC : Hid (R = Tot (fun q => if isT C.ts q [63] then (ex (q + 1)).bind fun y r => (takeP C.ts C.s.size [58] r).bind fun _ r' => (ex r').bind fun z e => .ok (.mk 15 [] [(.mk EA CA BA AA), y, z] (placeT C.ts C.s.size q)) e else .ok (.mk EA CA BA AA) q) aA XA) := by
    show R = _
    rw [HT.out, HB.bind]
  clear HB HT
  go_upto_region 2 with (fail)
  have eA : Hid (NSt C w (World.alloc DA (.cells #[.int .i64 EA, .string ⟨CA.toArray⟩, .slice FA BA.length GA, .int .i64 AA] 53)) aA XA [nB DA.heap.size EA CA FA BA GA AA, zB w.heap.size]) := hj (LB.out.alloc _ _ _ _)
  have qA : Hid (Rw w.heap.size (World.alloc DA (.cells #[.int .i64 EA, .string ⟨CA.toArray⟩, .slice FA BA.length GA, .int .i64 AA] 53)) [DA.heap.size, w.heap.size] BA FA) := hj (MB.out.alloc _)
  clear LB MB
  generalize World.alloc DA (.cells #[.int .i64 EA, .string ⟨CA.toArray⟩, .slice FA BA.length GA, .int .i64 AA] 53) = xB at eA qA ⊢
  have NB := ris_any C aA XA [63] xB eA.out.st
  obtain ⟨CC, rA⟩ : ∃ E, (!aA && isT C.ts XA [63]) = E := ⟨_, rfl⟩
  rw [rA] at NB
  have sA := hj rA
  clear rA
  go_wp2_with fail
  (with_reducible refine NB.mono ?_)
  clear NB
  rintro e cA ⟨rfl, tA⟩
  have CB := eA.out.st.below tA
  have hA : Ow C.pb xB cA := Ow.of_below tA
  clear tA
  have YA : Hid (NSt C w cA aA XA [nB DA.heap.size EA CA FA BA GA AA, zB w.heap.size]) := hj (eA.out.call CB hA)
  have iA : Hid (Rw w.heap.size cA [DA.heap.size, w.heap.size] BA FA) := hj (qA.out.call eA.out.pb hA)
  clear eA qA hA CB
  cases CC
  · have HM : Hid (Mt R aA XA (.mk EA CA BA AA)) := by
      show Mt _ _ _ _
      rw [KC.out, tot_if_f sA.out]
      exact Mt.ret _ _ _
    clear KC
    obtain ⟨x0, x1, x2, x3, xf⟩ : BoxF cA (DA.heap.size) (.int .i64 EA) (.string ⟨CA.toArray⟩) (.slice FA BA.length GA) (.int .i64 AA) := YA.out.at_ (List.Mem.head _)
    obtain ⟨r0, r1, r2, r3, rf⟩ : BoxF cA (w.heap.size) (.int .i64 0) (.string ⟨#[]⟩) (.slice none 0 0) (.int .i64 0) := YA.out.at_ (List.Mem.tail _ (List.Mem.head _))
    have OB : Hid (NSt C w (S4 cA w.heap.size (.int .i64 EA) (.string ⟨CA.toArray⟩) (.slice FA BA.length GA) (.int .i64 AA)) aA XA [nB DA.heap.size EA CA FA BA GA AA, nB w.heap.size EA CA FA BA GA AA]) := hj (NSt.set4 (pre := [nB DA.heap.size EA CA FA BA GA AA]) YA.out)
    have PB : Hid (Rw w.heap.size (S4 cA w.heap.size (.int .i64 EA) (.string ⟨CA.toArray⟩) (.slice FA BA.length GA) (.int .i64 AA)) [DA.heap.size, w.heap.size] BA FA) := hj (iA.out.set4 (List.Mem.tail _ (List.Mem.head _)))
    have HW : Hid (w.heap.size ≤ w.heap.size) := hj (Nat.le_refl _)
    have HF : Hid (RFinN C w (exprO C.ts C.s.size ex f) b p (.returned (.agg #[.int .i64 EA, .string ⟨CA.toArray⟩, .slice FA BA.length GA, .int .i64 AA])) (S4 cA w.heap.size (.int .i64 EA) (.string ⟨CA.toArray⟩) (.slice FA BA.length GA) (.int .i64 AA))) := hj (NSt.fin (n := CA) (l := BA) OB.out HW.out (by rw [HR.out]; exact HM.out) PB.out)
    clear YA OB HW HM PB iA
    go_wp2_with fail
    exact ret_node rfl rfl rfl (by simp [go_sem, r0]) (by simp [go_sem, r1]) (by simp [go_sem, r2]) (by simp [go_sem, r3]) HF.out
  · obtain ⟨rfl, hi⟩ : aA = false ∧ isT C.ts XA [63] = true := by
      have := sA.out
      cases aA <;> simp_all
    clear sA
    have LC : Hid (R = (Tot ex false (XA + 1)).bind fun y r => (takeP C.ts C.s.size [58] r).bind fun _ r' => (ex r').bind fun z e => .ok (.mk 15 [] [(.mk EA CA BA AA), y, z] (placeT C.ts C.s.size XA)) e) := by
      show R = _
      rw [KC.out, tot_go, if_pos hi]
      rfl
    clear KC
    have HI := hj hi
    clear hi
    have QB := rtake_any C false XA [63] cA YA.out.st
    obtain ⟨ZA, jA⟩ : ∃ pl, placeT C.ts C.s.size XA = pl := ⟨_, rfl⟩
    rw [jA] at QB
    have DB := hj jA
    clear jA
    go_wp2_with fail
    (with_reducible refine QB.mono ?_)
    clear QB
    rintro e yB ⟨DC, EC, IC, SB, rfl, TB, vA⟩
    have hM1099' := SB.place
    rw [DB.out] at hM1099'
    clear SB
    have fA : Hid (NSt C w yB DC EC [nB DA.heap.size EA CA FA BA GA AA, zB w.heap.size]) := hj (YA.out.call TB vA)
    have UB : Hid (Rw w.heap.size yB [DA.heap.size, w.heap.size] BA FA) := hj (iA.out.call YA.out.pb vA)
    clear YA iA vA TB
    obtain ⟨rfl, rfl⟩ := take_t HI.out hM1099'
    clear hM1099'
    have HWQ : Hid (∃ q, ex q ≠ .out) := hj ⟨_, fun e => HNE.out (by rw [LC.out, tot_go, e]; rfl)⟩
    have VB := HHX.out _ _ _ fA.out.st (fun e => HNE.out (by rw [LC.out, e]; rfl)) HWQ.out
    unfold RFinN at VB
    go_wp2_with fail
    (with_reducible refine VB.mono ?_)
    clear VB
    rintro e JA ⟨EB, nA, LA, MA, IA, HA, OA, NA, WB, rfl, XB, YB, wA⟩
    have ZB : Hid (NSt C w JA EB nA [nB DA.heap.size EA CA FA BA GA AA, zB w.heap.size]) := hj (fA.out.call YB wA)
    have aB : Hid (Rw w.heap.size JA [DA.heap.size, w.heap.size] BA FA) := hj (UB.out.call fA.out.pb wA)
    have bB : Hid (Rw w.heap.size JA [DA.heap.size, w.heap.size] IA OA) := hj (fA.out.row fA.out.ow.size XB)
    clear fA UB wA YB XB
    have NC : Hid (R = (Tot (takeP C.ts C.s.size [58]) EB nA).bind fun _ r' => (ex r').bind fun z e => .ok (.mk 15 [] [(.mk EA CA BA AA), (.mk LA MA IA HA), z] (ZA : Int)) e) := by
      show R = _
      rw [LC.out, WB.bind, DB.out, ← tot_bind]
    clear WB LC
    go_upto_region 7 with (fail)
    have gA : Hid (NSt C w (World.alloc JA (.cells #[.int .i64 LA, .string ⟨MA.toArray⟩, .slice OA IA.length NA, .int .i64 HA] 53)) EB nA [nB JA.heap.size LA MA OA IA NA HA, nB DA.heap.size EA CA FA BA GA AA, zB w.heap.size]) := hj (ZB.out.alloc _ _ _ _)
    have xA : Hid (Rw w.heap.size (World.alloc JA (.cells #[.int .i64 LA, .string ⟨MA.toArray⟩, .slice OA IA.length NA, .int .i64 HA] 53)) [JA.heap.size, DA.heap.size, w.heap.size] BA FA) := hj (aB.out.alloc _)
    have yA : Hid (Rw w.heap.size (World.alloc JA (.cells #[.int .i64 LA, .string ⟨MA.toArray⟩, .slice OA IA.length NA, .int .i64 HA] 53)) [JA.heap.size, DA.heap.size, w.heap.size] IA OA) := hj (bB.out.alloc _)
    clear ZB aB bB
    generalize World.alloc JA (.cells #[.int .i64 LA, .string ⟨MA.toArray⟩, .slice OA IA.length NA, .int .i64 HA] 53) = FC at gA xA yA ⊢
    have cB := rtake_any C EB nA [58] FC gA.out.st
    obtain ⟨GC, kA⟩ : ∃ pl, placeT C.ts C.s.size nA = pl := ⟨_, rfl⟩
    rw [kA] at cB
    have wB := hj kA
    clear kA
    go_wp2_with fail
    (with_reducible refine cB.mono ?_)
    clear cB
    rintro e dB ⟨AC, BC, JC, eB, rfl, fB, lA⟩
    have hM1131' := eB.place
    rw [wB.out] at hM1131'
    clear eB
    have bA : Hid (NSt C w dB AC BC [nB JA.heap.size LA MA OA IA NA HA, nB DA.heap.size EA CA FA BA GA AA, zB w.heap.size]) := hj (gA.out.call fB lA)
    have gB : Hid (Rw w.heap.size dB [JA.heap.size, DA.heap.size, w.heap.size] BA FA) := hj (xA.out.call gA.out.pb lA)
    have hB : Hid (Rw w.heap.size dB [JA.heap.size, DA.heap.size, w.heap.size] IA OA) := hj (yA.out.call gA.out.pb lA)
    clear gA xA yA lA fB
    have MC : Hid (R = (Tot ex AC BC).bind fun z e => .ok (.mk 15 [] [(.mk EA CA BA AA), (.mk LA MA IA HA), z] (ZA : Int)) e) := by
      show R = _
      rw [NC.out, hM1131'.bind, ← tot_bind]
    clear hM1131' NC
    have iB := HHX.out _ _ _ bA.out.st (fun e => HNE.out (by rw [MC.out, e]; rfl)) HWQ.out
    unfold RFinN at iB
    go_wp2_with fail
    (with_reducible refine iB.mono ?_)
    clear iB
    rintro e RA ⟨oA, pA, SA, TA, PA, KA, UA, QA, jB, rfl, kB, lB, mA⟩
    have mB : Hid (NSt C w RA oA pA [nB JA.heap.size LA MA OA IA NA HA, nB DA.heap.size EA CA FA BA GA AA, zB w.heap.size]) := hj (bA.out.call lB mA)
    have oB : Hid (Rw w.heap.size RA [JA.heap.size, DA.heap.size, w.heap.size] BA FA) := hj (gB.out.call bA.out.pb mA)
    have pB : Hid (Rw w.heap.size RA [JA.heap.size, DA.heap.size, w.heap.size] IA OA) := hj (hB.out.call bA.out.pb mA)
    have qB : Hid (Rw w.heap.size RA [JA.heap.size, DA.heap.size, w.heap.size] PA UA) := hj (bA.out.row bA.out.ow.size kB)
    clear bA gB hB mA lB kB
    have HM : Hid (Mt R oA pA (.mk 15 [] [(.mk EA CA BA AA), (.mk LA MA IA HA), (.mk SA TA PA KA)] (ZA : Int))) := by
      show Mt _ _ _ _
      rw [MC.out, jB.bind]
      exact Mt.ret _ _ _
    clear jB MC
    go_upto_region 9 with (fail)
    have WA : Hid (NSt C w (World.alloc RA (.cells #[.int .i64 SA, .string ⟨TA.toArray⟩, .slice UA PA.length QA, .int .i64 KA] 53)) oA pA [nB RA.heap.size SA TA UA PA QA KA, nB JA.heap.size LA MA OA IA NA HA, nB DA.heap.size EA CA FA BA GA AA, zB w.heap.size]) := hj (mB.out.alloc _ _ _ _)
    have zA : Hid (Rw w.heap.size (World.alloc RA (.cells #[.int .i64 SA, .string ⟨TA.toArray⟩, .slice UA PA.length QA, .int .i64 KA] 53)) [RA.heap.size, JA.heap.size, DA.heap.size, w.heap.size] BA FA) := hj (oB.out.alloc _)
    have AB : Hid (Rw w.heap.size (World.alloc RA (.cells #[.int .i64 SA, .string ⟨TA.toArray⟩, .slice UA PA.length QA, .int .i64 KA] 53)) [RA.heap.size, JA.heap.size, DA.heap.size, w.heap.size] IA OA) := hj (pB.out.alloc _)
    have BB : Hid (Rw w.heap.size (World.alloc RA (.cells #[.int .i64 SA, .string ⟨TA.toArray⟩, .slice UA PA.length QA, .int .i64 KA] 53)) [RA.heap.size, JA.heap.size, DA.heap.size, w.heap.size] PA UA) := hj (qB.out.alloc _)
    clear mB oB pB qB
    generalize World.alloc RA (.cells #[.int .i64 SA, .string ⟨TA.toArray⟩, .slice UA PA.length QA, .int .i64 KA] 53) = VA at WA zA AB BB ⊢
    obtain ⟨x0, x1, x2, x3, xf⟩ : BoxF VA (DA.heap.size) (.int .i64 EA) (.string ⟨CA.toArray⟩) (.slice FA BA.length GA) (.int .i64 AA) := WA.out.at_ (List.Mem.tail _ (List.Mem.tail _ (List.Mem.head _)))
    obtain ⟨y0, y1, y2, y3, yf⟩ : BoxF VA (JA.heap.size) (.int .i64 LA) (.string ⟨MA.toArray⟩) (.slice OA IA.length NA) (.int .i64 HA) := WA.out.at_ (List.Mem.tail _ (List.Mem.head _))
    obtain ⟨z0, z1, z2, z3, zf⟩ : BoxF VA (RA.heap.size) (.int .i64 SA) (.string ⟨TA.toArray⟩) (.slice UA PA.length QA) (.int .i64 KA) := WA.out.at_ (List.Mem.head _)
    obtain ⟨r0, r1, r2, r3, rf⟩ : BoxF VA (w.heap.size) (.int .i64 0) (.string ⟨#[]⟩) (.slice none 0 0) (.int .i64 0) := WA.out.at_ (List.Mem.tail _ (List.Mem.tail _ (List.Mem.tail _ (List.Mem.head _))))
    have OC := fun o => al_cell r0 o
    have PC := fun o => al_cell r1 o
    have QC := fun o => al_cell r2 o
    have RC := fun o => al_cell r3 o
    have raf : ∀ ob o, (World.alloc VA ob).frozen? ⟨w.heap.size, o, none⟩ = false := fun ob o => ((WA.out.bx _ (List.Mem.tail _ (List.Mem.tail _ (List.Mem.tail _ (List.Mem.head _))))).2.alloc ob).facts.2.2.2.2 o
    have rB : Hid (Rw w.heap.size (World.alloc VA (.cells #[.int .i64 EA, .string ⟨CA.toArray⟩, .slice FA BA.length GA, .int .i64 AA, .int .i64 LA, .string ⟨MA.toArray⟩, .slice OA IA.length NA, .int .i64 HA, .int .i64 SA, .string ⟨TA.toArray⟩, .slice UA PA.length QA, .int .i64 KA] 53)) [RA.heap.size, JA.heap.size, DA.heap.size, w.heap.size] [(.mk EA CA BA AA), (.mk LA MA IA HA), (.mk SA TA PA KA)] (some ⟨VA.heap.size, 0, none⟩)) := hj (Rw.three WA.out WA.out.ow.size zA.out AB.out BB.out)
    have sB : Hid (NSt C w (World.alloc VA (.cells #[.int .i64 EA, .string ⟨CA.toArray⟩, .slice FA BA.length GA, .int .i64 AA, .int .i64 LA, .string ⟨MA.toArray⟩, .slice OA IA.length NA, .int .i64 HA, .int .i64 SA, .string ⟨TA.toArray⟩, .slice UA PA.length QA, .int .i64 KA] 53)) oA pA [nB RA.heap.size SA TA UA PA QA KA, nB JA.heap.size LA MA OA IA NA HA, nB DA.heap.size EA CA FA BA GA AA, zB w.heap.size]) := hj (WA.out.blk _)
    clear WA zA AB BB
    have tB : Hid (NSt C w (S4 (World.alloc VA (.cells #[.int .i64 EA, .string ⟨CA.toArray⟩, .slice FA BA.length GA, .int .i64 AA, .int .i64 LA, .string ⟨MA.toArray⟩, .slice OA IA.length NA, .int .i64 HA, .int .i64 SA, .string ⟨TA.toArray⟩, .slice UA PA.length QA, .int .i64 KA] 53)) w.heap.size (.int .i64 15) (.string ⟨#[]⟩) (.slice (some ⟨VA.heap.size, 0, none⟩) 3 3) (.int .i64 ZA)) oA pA [nB RA.heap.size SA TA UA PA QA KA, nB JA.heap.size LA MA OA IA NA HA, nB DA.heap.size EA CA FA BA GA AA, (w.heap.size, .int .i64 15, .string ⟨#[]⟩, .slice (some ⟨VA.heap.size, 0, none⟩) 3 3, .int .i64 ZA)]) := hj (NSt.set4 (pre := [nB RA.heap.size SA TA UA PA QA KA, nB JA.heap.size LA MA OA IA NA HA, nB DA.heap.size EA CA FA BA GA AA]) sB.out)
    have vB : Hid (Rw w.heap.size (S4 (World.alloc VA (.cells #[.int .i64 EA, .string ⟨CA.toArray⟩, .slice FA BA.length GA, .int .i64 AA, .int .i64 LA, .string ⟨MA.toArray⟩, .slice OA IA.length NA, .int .i64 HA, .int .i64 SA, .string ⟨TA.toArray⟩, .slice UA PA.length QA, .int .i64 KA] 53)) w.heap.size (.int .i64 15) (.string ⟨#[]⟩) (.slice (some ⟨VA.heap.size, 0, none⟩) 3 3) (.int .i64 ZA)) [RA.heap.size, JA.heap.size, DA.heap.size, w.heap.size] [(.mk EA CA BA AA), (.mk LA MA IA HA), (.mk SA TA PA KA)] (some ⟨VA.heap.size, 0, none⟩)) := hj (rB.out.set4 (List.Mem.tail _ (List.Mem.tail _ (List.Mem.tail _ (List.Mem.head _)))))
    have HW : Hid (w.heap.size ≤ w.heap.size) := hj (Nat.le_refl _)
    have HF : Hid (RFinN C w (exprO C.ts C.s.size ex f) b p (.returned (.agg #[.int .i64 15, .string ⟨#[]⟩, .slice (some ⟨VA.heap.size, 0, none⟩) 3 3, .int .i64 ZA])) (S4 (World.alloc VA (.cells #[.int .i64 EA, .string ⟨CA.toArray⟩, .slice FA BA.length GA, .int .i64 AA, .int .i64 LA, .string ⟨MA.toArray⟩, .slice OA IA.length NA, .int .i64 HA, .int .i64 SA, .string ⟨TA.toArray⟩, .slice UA PA.length QA, .int .i64 KA] 53)) w.heap.size (.int .i64 15) (.string ⟨#[]⟩) (.slice (some ⟨VA.heap.size, 0, none⟩) 3 3) (.int .i64 ZA))) := hj (NSt.fin (n := []) (l := [(.mk EA CA BA AA), (.mk LA MA IA HA), (.mk SA TA PA KA)]) tB.out HW.out (by rw [HR.out]; exact HM.out) vB.out)
    clear sB tB HW HM vB rB
    go_wp2_with fail
    exact ret_node rfl rfl rfl (by simp [go_sem, OC]) (by simp [go_sem, PC]) (by simp [go_sem, QC]) (by simp [go_sem, RC]) HF.out
set_option maxHeartbeats 4000000 in
set_option maxRecDepth 100000 in
theorem ratom_any (C : Ctx) (ex : Nat → Res Nd) (hx : ROneQ C 87 ex) (f : Nat) (hf : f ≤ 8192) : ROne C 219 (atomO C.ts C.s.size ex f) := by
  intro w b p h hne
  obtain ⟨R, hR⟩ : ∃ R, Tot (atomO C.ts C.s.size ex f) b p = R := ⟨_, rfl⟩
  have HT : Hid (R = Tot (atomO C.ts C.s.size ex f) b p) := hj hR.symm
  rw [hR] at hne
  have HR := hj hR
  have HNE := hj hne
  have HHX := hj hx
  have gC : Hid (NSt C w w b p []) := NSt.start h
  clear hR hne h hx
  go_enter Tryz.func219, Tryz.ntmps219
  go_upto_region 1 with (fail)
  have pA : Hid (NSt C w (World.alloc w (.cells #[.int .i64 0, .string ⟨#[]⟩, .slice none 0 0, .int .i64 0] 53)) b p [zB w.heap.size]) := hj (gC.out.alloc _ _ _ _)
  clear gC
  generalize World.alloc w (.cells #[.int .i64 0, .string ⟨#[]⟩, .slice none 0 0, .int .i64 0] 53) = ZD at pA ⊢
  have HD := rplace_any C b p ZD pA.out.st
  obtain ⟨AA, xA⟩ : ∃ pl, placeT C.ts C.s.size p = pl := ⟨_, rfl⟩
  rw [xA] at HD
  have yA := hj xA
  clear xA
  go_wp2_with fail
  (with_reducible refine HD.mono ?_)
  clear HD
  rintro e BA ⟨rfl, VB⟩
  have WB := pA.out.st.below VB
  have XB : Ow C.pb ZD BA := Ow.of_below VB
  clear VB
  have hC : Hid (NSt C w BA b p [zB w.heap.size]) := hj (pA.out.call WB XB)
  clear pA XB WB
  go_upto_region 2 with (fail)
  have qA : Hid (NSt C w (World.alloc BA (.cells #[.int .i64 0, .string ⟨#[]⟩, .slice none 0 0, .int .i64 AA] 53)) b p [(BA.heap.size, .int .i64 0, .string ⟨#[]⟩, .slice none 0 0, .int .i64 AA), zB w.heap.size]) := hj (hC.out.alloc _ _ _ _)
  clear hC
  generalize World.alloc BA (.cells #[.int .i64 0, .string ⟨#[]⟩, .slice none 0 0, .int .i64 AA] 53) = aD at qA ⊢
  have ID := ris_any C b p [40] aD qA.out.st
  obtain ⟨mD, YB⟩ : ∃ E, (!b && isT C.ts p [40]) = E := ⟨_, rfl⟩
  rw [YB] at ID
  have EB := hj YB
  clear YB
  go_wp2_with fail
  (with_reducible refine ID.mono ?_)
  clear ID
  rintro e aC ⟨rfl, ZB⟩
  have aB := qA.out.st.below ZB
  have bB : Ow C.pb aD aC := Ow.of_below ZB
  clear ZB
  have FB : Hid (NSt C w aC b p [(BA.heap.size, .int .i64 0, .string ⟨#[]⟩, .slice none 0 0, .int .i64 AA), zB w.heap.size]) := hj (qA.out.call aB bB)
  clear qA bB aB
  have JD := ris_any C b p [91] aC FB.out.st
  obtain ⟨nD, cB⟩ : ∃ E, (!b && isT C.ts p [91]) = E := ⟨_, rfl⟩
  rw [cB] at JD
  have dB := hj cB
  clear cB
  go_wp2_with fail
  (with_reducible refine JD.mono ?_)
  clear JD
  rintro e bC ⟨rfl, eB⟩
  have fB := FB.out.st.below eB
  have gB : Ow C.pb aC bC := Ow.of_below eB
  clear eB
  have GB : Hid (NSt C w bC b p [(BA.heap.size, .int .i64 0, .string ⟨#[]⟩, .slice none 0 0, .int .i64 AA), zB w.heap.size]) := hj (FB.out.call fB gB)
  clear FB gB fB
  have KD := rnamed_any C b p bC GB.out.st
  obtain ⟨oD, hB⟩ : ∃ E, (!b && namedT C.ts p) = E := ⟨_, rfl⟩
  rw [hB] at KD
  have iC := hj hB
  clear hB
  go_wp2_with fail
  (with_reducible refine KD.mono ?_)
  clear KD
  rintro e RA ⟨rfl, iB⟩
  have jB := GB.out.st.below iB
  have kB : Ow C.pb bC RA := Ow.of_below iB
  clear iB
  have DA : Hid (NSt C w RA b p [(BA.heap.size, .int .i64 0, .string ⟨#[]⟩, .slice none 0 0, .int .i64 AA), zB w.heap.size]) := hj (GB.out.call jB kB)
  clear GB kB jB
  cases mD
  · cases nD
    · cases oD
      · cases b
        · have n1 : isT C.ts p [40] = false := by have := EB.out; simpa using this
          have n2 : isT C.ts p [91] = false := by have := dB.out; simpa using this
          have n3 : namedT C.ts p = false := by have := iC.out; simpa using this
          have N1 := hj n1
          have N2 := hj n2
          have N3 := hj n3
          clear n1 n2 n3
          obtain ⟨c0, c1, c2, c3, -⟩ := DA.out.st.cellsF
          have hlen := DA.out.st.len
          by_cases hp : p < C.ts.length
          · obtain ⟨t, ht⟩ : ∃ t, C.ts[p]? = some t := ⟨C.ts[p], List.getElem?_eq_getElem hp⟩
            obtain ⟨g, hx, k0, k1, k2⟩ := DA.out.st.row p t ht
            have e1 : kindT C.ts p = (t.1 : Int) := by unfold kindT; rw [ht]
            have e2 : textT C.ts p = t.2.1 := by unfold textT; rw [ht]
            have E1k := hj e1
            have E2k := hj e2
            rw [hx] at c1
            obtain ⟨kd, hkd⟩ : ∃ kd : Int, ((t.1 : Nat) : Int) = kd := ⟨_, rfl⟩
            obtain ⟨tx, htx⟩ : ∃ tx, t.2.1 = tx := ⟨_, rfl⟩
            rw [hkd] at k0
            rw [htx] at k1
            have HKD := hj hkd
            have HTX := hj htx
            obtain ⟨len, AE⟩ : ∃ len, C.ts.length = len := ⟨_, rfl⟩
            have HLN := hj AE
            rw [AE] at c1 hlen hp
            have HP : Hid (p < len) := hp
            have Q : decide ((p : Int) < (len : Int)) = true := by simp; omega
            clear ht hx e1 e2 hkd htx AE k2
            by_cases DE : kd = 1
            · subst DE
              go_upto_region 23 with (fail)
              go_quiet (fail)
              have HB : Hid (NSt C w (World.drewN RA nq) false p [(BA.heap.size, .int .i64 0, .string ⟨#[]⟩, .slice none 0 0, .int .i64 AA), zB w.heap.size]) := hj (DA.out.below (bdn (Below.refl _ _) _))
              clear DA
              generalize World.drewN RA nq = LD at HB ⊢
              clear c0 c1 c2 c3 k0 k1
              obtain ⟨n0, n1, n2, n3, nf⟩ : BoxF LD (BA.heap.size) (.int .i64 0) (.string ⟨#[]⟩) (.slice none 0 0) (.int .i64 AA) := HB.out.at_ (List.Mem.head _)
              go_upto_region 25 with (fail)
              clear n0 n1 n2 n3 nf
              have hA : Hid (NSt C w (World.setCell LD ⟨BA.heap.size, 0, none⟩ (.int .i64 9)) false p [(BA.heap.size, .int .i64 9, .string ⟨#[]⟩, .slice none 0 0, .int .i64 AA), zB w.heap.size]) := hj (NSt.set0 (pre := []) HB.out)
              clear HB
              generalize World.setCell LD ⟨BA.heap.size, 0, none⟩ (.int .i64 9) = MD at hA ⊢
              obtain ⟨-, c1, c2, -, -⟩ := hA.out.st.cellsF
              obtain ⟨t', ht'⟩ : ∃ t, C.ts[p]? = some t := ⟨C.ts[p]'(by have := HP.out; have := HLN.out; omega), List.getElem?_eq_getElem _⟩
              obtain ⟨g', hx, -, k1, -⟩ := hA.out.st.row p t' ht'
              rw [hx, HLN.out] at c1
              have e2' : t'.2.1 = tx := by
                have h1 := E2k.out
                unfold textT at h1
                rw [ht'] at h1
                exact h1.trans HTX.out
              rw [e2'] at k1
              have hp := HP.out
              clear ht' hx e2'
              obtain ⟨n0, n1, n2, n3, nf⟩ : BoxF MD (BA.heap.size) (.int .i64 9) (.string ⟨#[]⟩) (.slice none 0 0) (.int .i64 AA) := hA.out.at_ (List.Mem.head _)
              go_region
              clear c1 c2 k1 hp
              clear n0 n1 n2 n3 nf
              have iA : Hid (NSt C w (World.drew (World.setCell MD ⟨BA.heap.size, 1, none⟩ (.string ⟨tx.toArray⟩))) false p [(BA.heap.size, .int .i64 9, .string ⟨tx.toArray⟩, .slice none 0 0, .int .i64 AA), zB w.heap.size]) := hj ((NSt.set1 (pre := []) hA.out).below (Below.drew (Below.refl _ _)))
              clear hA
              generalize World.drew (World.setCell MD ⟨BA.heap.size, 1, none⟩ (.string ⟨tx.toArray⟩)) = cC at iA ⊢
              obtain ⟨bD, cD, jC, dD⟩ : cC.cell? ⟨C.pb, 2, none⟩ = some (.int .i64 p) ∧ cC.frozen? ⟨C.pb, 2, none⟩ = false ∧ p < C.ts.length ∧ C.ts.length ≤ 4096 := ⟨iA.out.st.cellsF.2.2.1, iA.out.st.cellsF.2.2.2.2.1, (by have := HP.out; have := HLN.out; omega), iA.out.st.len⟩
              have eD : IntKind.i64.wrap ((p : Int) + 1) = (p : Int) + 1 := IntWalk.i64_in _ (by omega)
              have fD := hj jC
              clear jC dD
              go_upto_region 27 with (fail)
              clear bD cD eD
              have rA : Hid (NSt C w (World.setCell cC ⟨C.pb, 2, none⟩ (.int .i64 ((p : Int) + 1))) false (p + 1) [(BA.heap.size, .int .i64 9, .string ⟨tx.toArray⟩, .slice none 0 0, .int .i64 AA), zB w.heap.size]) := hj (iA.out.step (q := p + 1) fD.out)
              clear iA
              generalize World.setCell cC ⟨C.pb, 2, none⟩ (.int .i64 ((p : Int) + 1)) = dC at rA ⊢
              have HM : Hid (Mt R false (p + 1) (.mk 9 tx [] (AA : Int))) := by
                show Mt _ _ _ _
                rw [HT.out, tot_go, atomO, if_neg (by rw [N1.out]; decide), if_neg (by rw [N2.out]; decide), if_pos (by rw [E1k.out]; exact HKD.out), yA.out, E2k.out, HTX.out]
                exact ⟨rfl, rfl, rfl⟩
              clear HT
              obtain ⟨n0, n1, n2, n3, nf⟩ : BoxF dC (BA.heap.size) (.int .i64 9) (.string ⟨tx.toArray⟩) (.slice none 0 0) (.int .i64 AA) := rA.out.at_ (List.Mem.head _)
              obtain ⟨r0, r1, r2, r3, rf⟩ : BoxF dC (w.heap.size) (.int .i64 0) (.string ⟨#[]⟩) (.slice none 0 0) (.int .i64 0) := rA.out.at_ (List.Mem.tail _ (List.Mem.head _))
              have kC : Hid (NSt C w (S4 dC w.heap.size (.int .i64 9) (.string ⟨tx.toArray⟩) (.slice none 0 0) (.int .i64 AA)) false (p + 1) [(BA.heap.size, .int .i64 9, .string ⟨tx.toArray⟩, .slice none 0 0, .int .i64 AA), (w.heap.size, .int .i64 9, .string ⟨tx.toArray⟩, .slice none 0 0, .int .i64 AA)]) := hj (NSt.set4 (pre := [(BA.heap.size, .int .i64 9, .string ⟨tx.toArray⟩, .slice none 0 0, .int .i64 AA)]) rA.out)
              have HW : Hid (w.heap.size ≤ w.heap.size) := hj (Nat.le_refl _)
              have HF : Hid (RFinN C w (atomO C.ts C.s.size ex f) false p (.returned (.agg #[.int .i64 9, .string ⟨tx.toArray⟩, .slice none 0 0, .int .i64 AA])) (S4 dC w.heap.size (.int .i64 9) (.string ⟨tx.toArray⟩) (.slice none 0 0) (.int .i64 AA))) := hj (NSt.fin (n := tx) (l := []) kC.out HW.out (by rw [HR.out]; exact HM.out) (Rw.nil _ _ [] _))
              clear rA kC HW HM  
              go_wp2_with fail
              exact ret_node rfl rfl rfl (by simp [go_sem, r0]) (by simp [go_sem, r1]) (by simp [go_sem, r2]) (by simp [go_sem, r3]) HF.out
            · have Qk : (kd == 1) = false := beq_eq_false_iff_ne.2 DE
              have NK : Hid (¬ kindT C.ts p = 1) := by
                show ¬ kindT C.ts p = 1
                rw [E1k.out, HKD.out]
                exact DE
              clear DE
              go_upto_region 23 with (fail)
              go_quiet (fail)
              have IB : Hid (NSt C w (World.drewN RA nq) false p [(BA.heap.size, .int .i64 0, .string ⟨#[]⟩, .slice none 0 0, .int .i64 AA), zB w.heap.size]) := hj (DA.out.below (bdn (Below.refl _ _) _))
              clear DA
              generalize World.drewN RA nq = pD at IB ⊢
              clear c0 c1 c2 c3
              have gD := rfail_any C false p pD IB.out.st
              go_wp2_with fail
              (with_reducible refine gD.mono ?_)
              clear gD
              rintro e lB ⟨rfl, lC, mC⟩
              have HM : Hid (Mt R true p (.mk 0 [] [] (AA : Int))) := by
                show Mt _ _ _ _
                rw [HT.out, tot_go, atomO, if_neg (by rw [N1.out]; decide), if_neg (by rw [N2.out]; decide), if_neg NK.out, nameP, if_neg (by rw [N3.out]; decide)]
                exact ⟨rfl, rfl⟩
              clear HT
              have JB : Hid (NSt C w lB true p [(BA.heap.size, .int .i64 0, .string ⟨#[]⟩, .slice none 0 0, .int .i64 AA), zB w.heap.size]) := hj (IB.out.call lC mC)
              clear IB mC lC
              obtain ⟨n0, n1, n2, n3, nf⟩ : BoxF lB (BA.heap.size) (.int .i64 0) (.string ⟨#[]⟩) (.slice none 0 0) (.int .i64 AA) := JB.out.at_ (List.Mem.head _)
              obtain ⟨r0, r1, r2, r3, rf⟩ : BoxF lB (w.heap.size) (.int .i64 0) (.string ⟨#[]⟩) (.slice none 0 0) (.int .i64 0) := JB.out.at_ (List.Mem.tail _ (List.Mem.head _))
              have nC : Hid (NSt C w (S4 lB w.heap.size (.int .i64 0) (.string ⟨#[]⟩) (.slice none 0 0) (.int .i64 AA)) true p [(BA.heap.size, .int .i64 0, .string ⟨#[]⟩, .slice none 0 0, .int .i64 AA), (w.heap.size, .int .i64 0, .string ⟨#[]⟩, .slice none 0 0, .int .i64 AA)]) := hj (NSt.set4 (pre := [(BA.heap.size, .int .i64 0, .string ⟨#[]⟩, .slice none 0 0, .int .i64 AA)]) JB.out)
              have HW : Hid (w.heap.size ≤ w.heap.size) := hj (Nat.le_refl _)
              have HF : Hid (RFinN C w (atomO C.ts C.s.size ex f) false p (.returned (.agg #[.int .i64 0, .string ⟨#[]⟩, .slice none 0 0, .int .i64 AA])) (S4 lB w.heap.size (.int .i64 0) (.string ⟨#[]⟩) (.slice none 0 0) (.int .i64 AA))) := hj (NSt.fin (n := []) (l := []) nC.out HW.out (by rw [HR.out]; exact HM.out) (Rw.nil _ _ [] _))
              clear JB nC HW HM  
              go_wp2_with fail
              exact ret_node rfl rfl rfl (by simp [go_sem, r0]) (by simp [go_sem, r1]) (by simp [go_sem, r2]) (by simp [go_sem, r3]) HF.out
          · have hnone : C.ts[p]? = none := List.getElem?_eq_none (by omega)
            have NK : Hid (¬ kindT C.ts p = 1) := by
              show ¬ kindT C.ts p = 1
              unfold kindT
              rw [hnone]
              decide
            obtain ⟨len, AE⟩ : ∃ len, C.ts.length = len := ⟨_, rfl⟩
            rw [AE] at c1 hlen hp
            have Q : decide ((p : Int) < (len : Int)) = false := by simp; omega
            clear hnone AE
            go_upto_region 23 with (fail)
            go_quiet (fail)
            have KB : Hid (NSt C w (World.drewN RA nq) false p [(BA.heap.size, .int .i64 0, .string ⟨#[]⟩, .slice none 0 0, .int .i64 AA), zB w.heap.size]) := hj (DA.out.below (bdn (Below.refl _ _) _))
            clear DA
            generalize World.drewN RA nq = qD at KB ⊢
            clear c0 c1 c2 c3
            have hD := rfail_any C false p qD KB.out.st
            go_wp2_with fail
            (with_reducible refine hD.mono ?_)
            clear hD
            rintro e mB ⟨rfl, oC, pC⟩
            have HM : Hid (Mt R true p (.mk 0 [] [] (AA : Int))) := by
              show Mt _ _ _ _
              rw [HT.out, tot_go, atomO, if_neg (by rw [N1.out]; decide), if_neg (by rw [N2.out]; decide), if_neg NK.out, nameP, if_neg (by rw [N3.out]; decide)]
              exact ⟨rfl, rfl⟩
            clear HT
            have LB : Hid (NSt C w mB true p [(BA.heap.size, .int .i64 0, .string ⟨#[]⟩, .slice none 0 0, .int .i64 AA), zB w.heap.size]) := hj (KB.out.call oC pC)
            clear KB pC oC
            obtain ⟨n0, n1, n2, n3, nf⟩ : BoxF mB (BA.heap.size) (.int .i64 0) (.string ⟨#[]⟩) (.slice none 0 0) (.int .i64 AA) := LB.out.at_ (List.Mem.head _)
            obtain ⟨r0, r1, r2, r3, rf⟩ : BoxF mB (w.heap.size) (.int .i64 0) (.string ⟨#[]⟩) (.slice none 0 0) (.int .i64 0) := LB.out.at_ (List.Mem.tail _ (List.Mem.head _))
            have qC : Hid (NSt C w (S4 mB w.heap.size (.int .i64 0) (.string ⟨#[]⟩) (.slice none 0 0) (.int .i64 AA)) true p [(BA.heap.size, .int .i64 0, .string ⟨#[]⟩, .slice none 0 0, .int .i64 AA), (w.heap.size, .int .i64 0, .string ⟨#[]⟩, .slice none 0 0, .int .i64 AA)]) := hj (NSt.set4 (pre := [(BA.heap.size, .int .i64 0, .string ⟨#[]⟩, .slice none 0 0, .int .i64 AA)]) LB.out)
            have HW : Hid (w.heap.size ≤ w.heap.size) := hj (Nat.le_refl _)
            have HF : Hid (RFinN C w (atomO C.ts C.s.size ex f) false p (.returned (.agg #[.int .i64 0, .string ⟨#[]⟩, .slice none 0 0, .int .i64 AA])) (S4 mB w.heap.size (.int .i64 0) (.string ⟨#[]⟩) (.slice none 0 0) (.int .i64 AA))) := hj (NSt.fin (n := []) (l := []) qC.out HW.out (by rw [HR.out]; exact HM.out) (Rw.nil _ _ [] _))
            clear LB qC HW HM  
            go_wp2_with fail
            exact ret_node rfl rfl rfl (by simp [go_sem, r0]) (by simp [go_sem, r1]) (by simp [go_sem, r2]) (by simp [go_sem, r3]) HF.out
        · obtain ⟨g0, c0, c1, c2, c3, -⟩ := DA.out.st.cellsT
          go_upto_region 23 with (fail)
          go_quiet (fail)
          have MB : Hid (NSt C w (World.drewN RA nq) true p [(BA.heap.size, .int .i64 0, .string ⟨#[]⟩, .slice none 0 0, .int .i64 AA), zB w.heap.size]) := hj (DA.out.below (bdn (Below.refl _ _) _))
          clear DA
          generalize World.drewN RA nq = rD at MB ⊢
          clear c0 c1 c2 c3
          have iD := rfail_any C true p rD MB.out.st
          go_wp2_with fail
          (with_reducible refine iD.mono ?_)
          clear iD
          rintro e oB ⟨rfl, rC, sC⟩
          have HM : Hid (Mt R true p (.mk 0 [] [] (AA : Int))) := by
            show Mt _ _ _ _
            rw [HT.out]
            exact ⟨rfl, rfl⟩
          clear HT
          have NB : Hid (NSt C w oB true p [(BA.heap.size, .int .i64 0, .string ⟨#[]⟩, .slice none 0 0, .int .i64 AA), zB w.heap.size]) := hj (MB.out.call rC sC)
          clear MB sC rC
          obtain ⟨n0, n1, n2, n3, nf⟩ : BoxF oB (BA.heap.size) (.int .i64 0) (.string ⟨#[]⟩) (.slice none 0 0) (.int .i64 AA) := NB.out.at_ (List.Mem.head _)
          obtain ⟨r0, r1, r2, r3, rf⟩ : BoxF oB (w.heap.size) (.int .i64 0) (.string ⟨#[]⟩) (.slice none 0 0) (.int .i64 0) := NB.out.at_ (List.Mem.tail _ (List.Mem.head _))
          have tC : Hid (NSt C w (S4 oB w.heap.size (.int .i64 0) (.string ⟨#[]⟩) (.slice none 0 0) (.int .i64 AA)) true p [(BA.heap.size, .int .i64 0, .string ⟨#[]⟩, .slice none 0 0, .int .i64 AA), (w.heap.size, .int .i64 0, .string ⟨#[]⟩, .slice none 0 0, .int .i64 AA)]) := hj (NSt.set4 (pre := [(BA.heap.size, .int .i64 0, .string ⟨#[]⟩, .slice none 0 0, .int .i64 AA)]) NB.out)
          have HW : Hid (w.heap.size ≤ w.heap.size) := hj (Nat.le_refl _)
          have HF : Hid (RFinN C w (atomO C.ts C.s.size ex f) true p (.returned (.agg #[.int .i64 0, .string ⟨#[]⟩, .slice none 0 0, .int .i64 AA])) (S4 oB w.heap.size (.int .i64 0) (.string ⟨#[]⟩) (.slice none 0 0) (.int .i64 AA))) := hj (NSt.fin (n := []) (l := []) tC.out HW.out (by rw [HR.out]; exact HM.out) (Rw.nil _ _ [] _))
          clear NB tC HW HM  
          go_wp2_with fail
          exact ret_node rfl rfl rfl (by simp [go_sem, r0]) (by simp [go_sem, r1]) (by simp [go_sem, r2]) (by simp [go_sem, r3]) HF.out
      · obtain ⟨rfl, hHI⟩ : b = false ∧ namedT C.ts p = true := by
          have := iC.out
          cases b <;> simp_all
        have HI := hj hHI
        clear hHI
        have BE : Hid (R = (Tot (nameP C.ts) false p).bind fun s q => if isT C.ts q [40] then (argsO C.ts C.s.size ex f q).bind fun a r => .ok (.mk 13 s [a] (AA : Int)) r else .ok (.mk 10 s [] (AA : Int)) q) := by
          show R = _
          have n1 : isT C.ts p [40] = false := by have := EB.out; simpa using this
          have n2 : isT C.ts p [91] = false := by have := dB.out; simpa using this
          have n3 : ¬ kindT C.ts p = 1 := by
            have h0 := HI.out
            unfold namedT at h0
            simp only [Bool.and_eq_true, decide_eq_true_eq] at h0
            omega
          rw [HT.out, tot_go, atomO, if_neg (by rw [n1]; decide), if_neg (by rw [n2]; decide), if_neg n3, yA.out]
          rfl
        clear HT
        obtain ⟨n0, n1, n2, n3, nf⟩ : BoxF RA (BA.heap.size) (.int .i64 0) (.string ⟨#[]⟩) (.slice none 0 0) (.int .i64 AA) := DA.out.at_ (List.Mem.head _)
        go_upto_region 17 with (fail)
        clear n0 n1 n2 n3 nf
        have OB : Hid (NSt C w (World.setCell RA ⟨BA.heap.size, 0, none⟩ (.int .i64 10)) false p [(BA.heap.size, .int .i64 10, .string ⟨#[]⟩, .slice none 0 0, .int .i64 AA), zB w.heap.size]) := hj (NSt.set0 (pre := []) DA.out)
        clear DA
        generalize World.setCell RA ⟨BA.heap.size, 0, none⟩ (.int .i64 10) = sD at OB ⊢
        have jD := rnameq_any C false p sD OB.out.st
        go_wp2_with fail
        (with_reducible refine jD.mono ?_)
        clear jD
        rintro e eC ⟨fA, gA, CA, vC, rfl, wC, xC⟩
        have pB : Hid (NSt C w eC fA gA [(BA.heap.size, .int .i64 10, .string ⟨#[]⟩, .slice none 0 0, .int .i64 AA), zB w.heap.size]) := hj (OB.out.call wC xC)
        clear OB xC wC
        have CE : Hid (R = Tot (fun q => if isT C.ts q [40] then (argsO C.ts C.s.size ex f q).bind fun a r => .ok (.mk 13 CA [a] (AA : Int)) r else .ok (.mk 10 CA [] (AA : Int)) q) fA gA) := by
          show R = _
          rw [BE.out, vC.bind]
        clear vC BE
        obtain ⟨n0, n1, n2, n3, nf⟩ : BoxF eC (BA.heap.size) (.int .i64 10) (.string ⟨#[]⟩) (.slice none 0 0) (.int .i64 AA) := pB.out.at_ (List.Mem.head _)
        go_upto_region 18 with (fail)
        clear n0 n1 n2 n3 nf
        have sA : Hid (NSt C w (World.setCell eC ⟨BA.heap.size, 1, none⟩ (.string ⟨CA.toArray⟩)) fA gA [(BA.heap.size, .int .i64 10, .string ⟨CA.toArray⟩, .slice none 0 0, .int .i64 AA), zB w.heap.size]) := hj (NSt.set1 (pre := []) pB.out)
        clear pB
        generalize World.setCell eC ⟨BA.heap.size, 1, none⟩ (.string ⟨CA.toArray⟩) = kD at sA ⊢
        have ND := ris_any C fA gA [40] kD sA.out.st
        obtain ⟨tD, qB⟩ : ∃ E, (!fA && isT C.ts gA [40]) = E := ⟨_, rfl⟩
        rw [qB] at ND
        have yC := hj qB
        clear qB
        go_wp2_with fail
        (with_reducible refine ND.mono ?_)
        clear ND
        rintro e lA ⟨rfl, rB⟩
        have sB := sA.out.st.below rB
        have tB : Ow C.pb kD lA := Ow.of_below rB
        clear rB
        have aA : Hid (NSt C w lA fA gA [(BA.heap.size, .int .i64 10, .string ⟨CA.toArray⟩, .slice none 0 0, .int .i64 AA), zB w.heap.size]) := hj (sA.out.call sB tB)
        clear sA tB sB
        cases tD
        · have HM : Hid (Mt R fA gA (.mk 10 CA [] (AA : Int))) := by
            show Mt _ _ _ _
            rw [CE.out, tot_if_f yC.out]
            exact Mt.ret _ _ _
          clear CE
          obtain ⟨n0, n1, n2, n3, nf⟩ : BoxF lA (BA.heap.size) (.int .i64 10) (.string ⟨CA.toArray⟩) (.slice none 0 0) (.int .i64 AA) := aA.out.at_ (List.Mem.head _)
          obtain ⟨r0, r1, r2, r3, rf⟩ : BoxF lA (w.heap.size) (.int .i64 0) (.string ⟨#[]⟩) (.slice none 0 0) (.int .i64 0) := aA.out.at_ (List.Mem.tail _ (List.Mem.head _))
          have zC : Hid (NSt C w (S4 lA w.heap.size (.int .i64 10) (.string ⟨CA.toArray⟩) (.slice none 0 0) (.int .i64 AA)) fA gA [(BA.heap.size, .int .i64 10, .string ⟨CA.toArray⟩, .slice none 0 0, .int .i64 AA), (w.heap.size, .int .i64 10, .string ⟨CA.toArray⟩, .slice none 0 0, .int .i64 AA)]) := hj (NSt.set4 (pre := [(BA.heap.size, .int .i64 10, .string ⟨CA.toArray⟩, .slice none 0 0, .int .i64 AA)]) aA.out)
          have HW : Hid (w.heap.size ≤ w.heap.size) := hj (Nat.le_refl _)
          have HF : Hid (RFinN C w (atomO C.ts C.s.size ex f) false p (.returned (.agg #[.int .i64 10, .string ⟨CA.toArray⟩, .slice none 0 0, .int .i64 AA])) (S4 lA w.heap.size (.int .i64 10) (.string ⟨CA.toArray⟩) (.slice none 0 0) (.int .i64 AA))) := hj (NSt.fin (n := CA) (l := []) zC.out HW.out (by rw [HR.out]; exact HM.out) (Rw.nil _ _ [] _))
          clear aA zC HW HM  
          go_wp2_with fail
          exact ret_node rfl rfl rfl (by simp [go_sem, r0]) (by simp [go_sem, r1]) (by simp [go_sem, r2]) (by simp [go_sem, r3]) HF.out
        · have EE : Hid (R = (Tot (argsO C.ts C.s.size ex f) fA gA).bind fun a r => .ok (.mk 13 CA [a] (AA : Int)) r) := by
            show R = _
            rw [CE.out, tot_if_t yC.out, tot_bind]
          clear CE
          obtain ⟨n0, n1, n2, n3, nf⟩ : BoxF lA (BA.heap.size) (.int .i64 10) (.string ⟨CA.toArray⟩) (.slice none 0 0) (.int .i64 AA) := aA.out.at_ (List.Mem.head _)
          go_upto_region 21 with (fail)
          clear n0 n1 n2 n3 nf
          have jA : Hid (NSt C w (World.setCell lA ⟨BA.heap.size, 0, none⟩ (.int .i64 13)) fA gA [(BA.heap.size, .int .i64 13, .string ⟨CA.toArray⟩, .slice none 0 0, .int .i64 AA), zB w.heap.size]) := hj (NSt.set0 (pre := []) aA.out)
          clear aA
          generalize World.setCell lA ⟨BA.heap.size, 0, none⟩ (.int .i64 13) = zD at jA ⊢
          have OD := rargs_any C ex HHX.out f hf _ _ _ jA.out.st (fun e => HNE.out (by rw [EE.out, e]; rfl))
          unfold RFinN at OD
          go_wp2_with fail
          (with_reducible refine OD.mono ?_)
          clear OD
          rintro e WA ⟨TB, UB, SA, TA, QA, FA, VA, MA, AD, rfl, BD, CD, DD⟩
          have ED : Hid (NSt C w WA TB UB [(BA.heap.size, .int .i64 13, .string ⟨CA.toArray⟩, .slice none 0 0, .int .i64 AA), zB w.heap.size]) := hj (jA.out.call CD DD)
          have FD : Hid (Rw w.heap.size WA [BA.heap.size, w.heap.size] QA VA) := hj (jA.out.row jA.out.ow.size BD)
          clear jA DD CD BD
          have HM : Hid (Mt R TB UB (.mk 13 CA [(.mk SA TA QA FA)] (AA : Int))) := by
            show Mt _ _ _ _
            rw [EE.out, AD.bind]
            exact Mt.ret _ _ _
          clear AD EE
          go_upto_region 22 with (fail)
          have ZA : Hid (NSt C w (World.alloc WA (.cells #[.int .i64 SA, .string ⟨TA.toArray⟩, .slice VA QA.length MA, .int .i64 FA] 53)) TB UB [nB WA.heap.size SA TA VA QA MA FA, (BA.heap.size, .int .i64 13, .string ⟨CA.toArray⟩, .slice none 0 0, .int .i64 AA), zB w.heap.size]) := hj (ED.out.alloc _ _ _ _)
          have vB : Hid (Rw w.heap.size (World.alloc WA (.cells #[.int .i64 SA, .string ⟨TA.toArray⟩, .slice VA QA.length MA, .int .i64 FA] 53)) [WA.heap.size, BA.heap.size, w.heap.size] QA VA) := hj (FD.out.alloc _)
          clear ED FD
          generalize World.alloc WA (.cells #[.int .i64 SA, .string ⟨TA.toArray⟩, .slice VA QA.length MA, .int .i64 FA] 53) = NA at ZA vB ⊢
          obtain ⟨u00, u01, u02, u03, u0f⟩ : BoxF NA (WA.heap.size) (.int .i64 SA) (.string ⟨TA.toArray⟩) (.slice VA QA.length MA) (.int .i64 FA) := ZA.out.at_ (List.Mem.head _)
          obtain ⟨n0, n1, n2, n3, nf⟩ : BoxF NA (BA.heap.size) (.int .i64 13) (.string ⟨CA.toArray⟩) (.slice none 0 0) (.int .i64 AA) := ZA.out.at_ (List.Mem.tail _ (List.Mem.head _))
          have FE := fun o => al_cell n0 o
          have GE := fun o => al_cell n1 o
          have HE := fun o => al_cell n2 o
          have IE := fun o => al_cell n3 o
          have naf : ∀ ob o, (World.alloc NA ob).frozen? ⟨BA.heap.size, o, none⟩ = false := fun ob o => ((ZA.out.bx _ (List.Mem.tail _ (List.Mem.head _))).2.alloc ob).facts.2.2.2.2 o
          go_upto_region 27 with (fail)
          clear n0 n1 n2 n3 nf u00 u01 u02 u03 u0f
          clear FE GE HE IE naf
          have wB : Hid (Rw w.heap.size (World.alloc NA (.cells #[.int .i64 SA, .string ⟨TA.toArray⟩, .slice VA QA.length MA, .int .i64 FA] 53)) [WA.heap.size, BA.heap.size, w.heap.size] [(.mk SA TA QA FA)] (some ⟨NA.heap.size, 0, none⟩)) := hj (Rw.one ZA.out ZA.out.ow.size vB.out)
          have xB : Hid (NSt C w (World.alloc NA (.cells #[.int .i64 SA, .string ⟨TA.toArray⟩, .slice VA QA.length MA, .int .i64 FA] 53)) TB UB [nB WA.heap.size SA TA VA QA MA FA, (BA.heap.size, .int .i64 13, .string ⟨CA.toArray⟩, .slice none 0 0, .int .i64 AA), zB w.heap.size]) := hj (ZA.out.blk _)
          clear ZA vB
          have bA : Hid (NSt C w (World.setCell (World.alloc NA (.cells #[.int .i64 SA, .string ⟨TA.toArray⟩, .slice VA QA.length MA, .int .i64 FA] 53)) ⟨BA.heap.size, 2, none⟩ (.slice (some ⟨NA.heap.size, 0, none⟩) 1 1)) TB UB [nB WA.heap.size SA TA VA QA MA FA, (BA.heap.size, .int .i64 13, .string ⟨CA.toArray⟩, .slice (some ⟨NA.heap.size, 0, none⟩) 1 1, .int .i64 AA), zB w.heap.size]) := hj (NSt.set2 (pre := [nB WA.heap.size SA TA VA QA MA FA]) xB.out)
          have zA : Hid (Rw w.heap.size (World.setCell (World.alloc NA (.cells #[.int .i64 SA, .string ⟨TA.toArray⟩, .slice VA QA.length MA, .int .i64 FA] 53)) ⟨BA.heap.size, 2, none⟩ (.slice (some ⟨NA.heap.size, 0, none⟩) 1 1)) [WA.heap.size, BA.heap.size, w.heap.size] [(.mk SA TA QA FA)] (some ⟨NA.heap.size, 0, none⟩)) := hj (wB.out.set (List.Mem.tail _ (List.Mem.head _)))
          clear xB wB
          generalize World.setCell (World.alloc NA (.cells #[.int .i64 SA, .string ⟨TA.toArray⟩, .slice VA QA.length MA, .int .i64 FA] 53)) ⟨BA.heap.size, 2, none⟩ (.slice (some ⟨NA.heap.size, 0, none⟩) 1 1) = tA at bA zA ⊢
          obtain ⟨n0, n1, n2, n3, nf⟩ : BoxF tA (BA.heap.size) (.int .i64 13) (.string ⟨CA.toArray⟩) (.slice (some ⟨NA.heap.size, 0, none⟩) 1 1) (.int .i64 AA) := bA.out.at_ (List.Mem.tail _ (List.Mem.head _))
          obtain ⟨r0, r1, r2, r3, rf⟩ : BoxF tA (w.heap.size) (.int .i64 0) (.string ⟨#[]⟩) (.slice none 0 0) (.int .i64 0) := bA.out.at_ (List.Mem.tail _ (List.Mem.tail _ (List.Mem.head _)))
          have yB : Hid (NSt C w (S4 tA w.heap.size (.int .i64 13) (.string ⟨CA.toArray⟩) (.slice (some ⟨NA.heap.size, 0, none⟩) 1 1) (.int .i64 AA)) TB UB [nB WA.heap.size SA TA VA QA MA FA, (BA.heap.size, .int .i64 13, .string ⟨CA.toArray⟩, .slice (some ⟨NA.heap.size, 0, none⟩) 1 1, .int .i64 AA), (w.heap.size, .int .i64 13, .string ⟨CA.toArray⟩, .slice (some ⟨NA.heap.size, 0, none⟩) 1 1, .int .i64 AA)]) := hj (NSt.set4 (pre := [nB WA.heap.size SA TA VA QA MA FA, (BA.heap.size, .int .i64 13, .string ⟨CA.toArray⟩, .slice (some ⟨NA.heap.size, 0, none⟩) 1 1, .int .i64 AA)]) bA.out)
          have AC : Hid (Rw w.heap.size (S4 tA w.heap.size (.int .i64 13) (.string ⟨CA.toArray⟩) (.slice (some ⟨NA.heap.size, 0, none⟩) 1 1) (.int .i64 AA)) [WA.heap.size, BA.heap.size, w.heap.size] [(.mk SA TA QA FA)] (some ⟨NA.heap.size, 0, none⟩)) := hj (zA.out.set4 (List.Mem.tail _ (List.Mem.tail _ (List.Mem.head _))))
          have HW : Hid (w.heap.size ≤ w.heap.size) := hj (Nat.le_refl _)
          have HF : Hid (RFinN C w (atomO C.ts C.s.size ex f) false p (.returned (.agg #[.int .i64 13, .string ⟨CA.toArray⟩, .slice (some ⟨NA.heap.size, 0, none⟩) 1 1, .int .i64 AA])) (S4 tA w.heap.size (.int .i64 13) (.string ⟨CA.toArray⟩) (.slice (some ⟨NA.heap.size, 0, none⟩) 1 1) (.int .i64 AA))) := hj (NSt.fin (n := CA) (l := [(.mk SA TA QA FA)]) yB.out HW.out (by rw [HR.out]; exact HM.out) AC.out)
          clear bA yB HW HM AC zA
          go_wp2_with fail
          exact ret_node rfl rfl rfl (by simp [go_sem, r0]) (by simp [go_sem, r1]) (by simp [go_sem, r2]) (by simp [go_sem, r3]) HF.out
    · obtain ⟨rfl, hHI⟩ : b = false ∧ isT C.ts p [91] = true := by
        have := dB.out
        cases b <;> simp_all
      have HI := hj hHI
      clear hHI
      have BE : Hid (R = (Tot (rowG C.ts C.s.size ex f [93]) false (p + 1)).bind fun l q => .ok (.mk 11 [] l (AA : Int)) q) := by
        show R = _
        have n1 : isT C.ts p [40] = false := by have := EB.out; simpa using this
        rw [HT.out, tot_go, atomO, if_neg (by rw [n1]; decide), if_pos HI.out, yA.out]
        rfl
      clear HT
      obtain ⟨PD, QD, BC, RD⟩ : RA.cell? ⟨C.pb, 2, none⟩ = some (.int .i64 p) ∧ RA.frozen? ⟨C.pb, 2, none⟩ = false ∧ p < C.ts.length ∧ C.ts.length ≤ 4096 := ⟨DA.out.st.cellsF.2.2.1, DA.out.st.cellsF.2.2.2.2.1, isT_lt HI.out, DA.out.st.len⟩
      have SD : IntKind.i64.wrap ((p : Int) + 1) = (p : Int) + 1 := IntWalk.i64_in _ (by omega)
      have TD := hj BC
      clear BC RD
      go_upto_region 13 with (fail)
      clear PD QD SD
      have mA : Hid (NSt C w (World.setCell RA ⟨C.pb, 2, none⟩ (.int .i64 ((p : Int) + 1))) false (p + 1) [(BA.heap.size, .int .i64 0, .string ⟨#[]⟩, .slice none 0 0, .int .i64 AA), zB w.heap.size]) := hj (DA.out.step (q := p + 1) TD.out)
      clear DA
      generalize World.setCell RA ⟨C.pb, 2, none⟩ (.int .i64 ((p : Int) + 1)) = CC at mA ⊢
      obtain ⟨n0, n1, n2, n3, nf⟩ : BoxF CC (BA.heap.size) (.int .i64 0) (.string ⟨#[]⟩) (.slice none 0 0) (.int .i64 AA) := mA.out.at_ (List.Mem.head _)
      go_upto_region 14 with (fail)
      clear n0 n1 n2 n3 nf
      have XA : Hid (NSt C w (World.setCell CC ⟨BA.heap.size, 0, none⟩ (.int .i64 11)) false (p + 1) [(BA.heap.size, .int .i64 11, .string ⟨#[]⟩, .slice none 0 0, .int .i64 AA), zB w.heap.size]) := hj (NSt.set0 (pre := []) mA.out)
      clear mA
      generalize World.setCell CC ⟨BA.heap.size, 0, none⟩ (.int .i64 11) = wD at XA ⊢
      have GD := rrow_x (rlist_any C ex HHX.out f hf [93] _ _ _ XA.out.st (fun e => HNE.out (by rw [BE.out, e]; rfl))) (fun _ => True) (fun _ _ => trivial)
      go_wp2_with fail
      (with_reducible refine GD.mono ?_)
      clear GD
      rintro e kA ⟨PB, QB, IA, OA, KA, DC, rfl, EC, FC, GC, -⟩
      have AB : Hid (NSt C w kA PB QB [(BA.heap.size, .int .i64 11, .string ⟨#[]⟩, .slice none 0 0, .int .i64 AA), zB w.heap.size]) := hj (XA.out.call FC GC)
      have HC : Hid (Rw w.heap.size kA [BA.heap.size, w.heap.size] IA OA) := hj (XA.out.row XA.out.ow.size EC)
      clear XA GC FC EC
      have HM : Hid (Mt R PB QB (.mk 11 [] IA (AA : Int))) := by
        show Mt _ _ _ _
        rw [BE.out, DC.bind]
        exact Mt.ret _ _ _
      clear DC BE
      obtain ⟨n0, n1, n2, n3, nf⟩ : BoxF kA (BA.heap.size) (.int .i64 11) (.string ⟨#[]⟩) (.slice none 0 0) (.int .i64 AA) := AB.out.at_ (List.Mem.head _)
      go_upto_region 27 with (fail)
      clear n0 n1 n2 n3 nf
      have cA : Hid (NSt C w (World.setCell kA ⟨BA.heap.size, 2, none⟩ (.slice OA IA.length KA)) PB QB [(BA.heap.size, .int .i64 11, .string ⟨#[]⟩, .slice OA IA.length KA, .int .i64 AA), zB w.heap.size]) := hj (NSt.set2 (pre := []) AB.out)
      have BB : Hid (Rw w.heap.size (World.setCell kA ⟨BA.heap.size, 2, none⟩ (.slice OA IA.length KA)) [BA.heap.size, w.heap.size] IA OA) := hj (HC.out.set (List.Mem.head _))
      clear AB HC
      generalize World.setCell kA ⟨BA.heap.size, 2, none⟩ (.slice OA IA.length KA) = vA at cA BB ⊢
      obtain ⟨n0, n1, n2, n3, nf⟩ : BoxF vA (BA.heap.size) (.int .i64 11) (.string ⟨#[]⟩) (.slice OA IA.length KA) (.int .i64 AA) := cA.out.at_ (List.Mem.head _)
      obtain ⟨r0, r1, r2, r3, rf⟩ : BoxF vA (w.heap.size) (.int .i64 0) (.string ⟨#[]⟩) (.slice none 0 0) (.int .i64 0) := cA.out.at_ (List.Mem.tail _ (List.Mem.head _))
      have IC : Hid (NSt C w (S4 vA w.heap.size (.int .i64 11) (.string ⟨#[]⟩) (.slice OA IA.length KA) (.int .i64 AA)) PB QB [(BA.heap.size, .int .i64 11, .string ⟨#[]⟩, .slice OA IA.length KA, .int .i64 AA), (w.heap.size, .int .i64 11, .string ⟨#[]⟩, .slice OA IA.length KA, .int .i64 AA)]) := hj (NSt.set4 (pre := [(BA.heap.size, .int .i64 11, .string ⟨#[]⟩, .slice OA IA.length KA, .int .i64 AA)]) cA.out)
      have JC : Hid (Rw w.heap.size (S4 vA w.heap.size (.int .i64 11) (.string ⟨#[]⟩) (.slice OA IA.length KA) (.int .i64 AA)) [BA.heap.size, w.heap.size] IA OA) := hj (BB.out.set4 (List.Mem.tail _ (List.Mem.head _)))
      have HW : Hid (w.heap.size ≤ w.heap.size) := hj (Nat.le_refl _)
      have HF : Hid (RFinN C w (atomO C.ts C.s.size ex f) false p (.returned (.agg #[.int .i64 11, .string ⟨#[]⟩, .slice OA IA.length KA, .int .i64 AA])) (S4 vA w.heap.size (.int .i64 11) (.string ⟨#[]⟩) (.slice OA IA.length KA) (.int .i64 AA))) := hj (NSt.fin (n := []) (l := IA) IC.out HW.out (by rw [HR.out]; exact HM.out) JC.out)
      clear cA IC HW HM JC BB
      go_wp2_with fail
      exact ret_node rfl rfl rfl (by simp [go_sem, r0]) (by simp [go_sem, r1]) (by simp [go_sem, r2]) (by simp [go_sem, r3]) HF.out
  · obtain ⟨rfl, hHI⟩ : b = false ∧ isT C.ts p [40] = true := by
      have := EB.out
      cases b <;> simp_all
    have HI := hj hHI
    clear hHI
    have BE : Hid (R = (Tot ex false (p + 1)).bind fun x q => (takeP C.ts C.s.size [41] q).bind fun _ e => .ok x e) := by
      show R = _
      rw [HT.out, tot_go, atomO, if_pos HI.out]
      rfl
    clear HT
    obtain ⟨UD, VD, KC, WD⟩ : RA.cell? ⟨C.pb, 2, none⟩ = some (.int .i64 p) ∧ RA.frozen? ⟨C.pb, 2, none⟩ = false ∧ p < C.ts.length ∧ C.ts.length ≤ 4096 := ⟨DA.out.st.cellsF.2.2.1, DA.out.st.cellsF.2.2.2.2.1, isT_lt HI.out, DA.out.st.len⟩
    have XD : IntKind.i64.wrap ((p : Int) + 1) = (p : Int) + 1 := IntWalk.i64_in _ (by omega)
    have YD := hj KC
    clear KC WD
    go_upto_region 8 with (fail)
    clear UD VD XD
    have YA : Hid (NSt C w (World.setCell RA ⟨C.pb, 2, none⟩ (.int .i64 ((p : Int) + 1))) false (p + 1) [(BA.heap.size, .int .i64 0, .string ⟨#[]⟩, .slice none 0 0, .int .i64 AA), zB w.heap.size]) := hj (DA.out.step (q := p + 1) YD.out)
    clear DA
    generalize World.setCell RA ⟨C.pb, 2, none⟩ (.int .i64 ((p : Int) + 1)) = xD at YA ⊢
    have LC := HHX.out _ _ _ YA.out.st (fun e => HNE.out (by rw [BE.out, e]; rfl)) ⟨_, fun e => HNE.out (by rw [BE.out, tot_go, e]; rfl)⟩
    unfold RFinN at LC
    go_wp2_with fail
    (with_reducible refine LC.mono ?_)
    clear LC
    rintro e UA ⟨SB, wA, PA, LA, GA, EA, JA, HA, MC, rfl, NC, OC, PC⟩
    have QC : Hid (NSt C w UA SB wA [(BA.heap.size, .int .i64 0, .string ⟨#[]⟩, .slice none 0 0, .int .i64 AA), zB w.heap.size]) := hj (YA.out.call OC PC)
    have RC : Hid (Rw w.heap.size UA [BA.heap.size, w.heap.size] GA JA) := hj (YA.out.row YA.out.ow.size NC)
    clear YA PC OC NC
    have CE : Hid (R = (Tot (takeP C.ts C.s.size [41]) SB wA).bind fun _ e => .ok (.mk PA LA GA EA) e) := by
      show R = _
      rw [BE.out, MC.bind, ← tot_bind]
    clear MC BE
    go_upto_region 9 with (fail)
    have dA : Hid (NSt C w (World.alloc UA (.cells #[.int .i64 PA, .string ⟨LA.toArray⟩, .slice JA GA.length HA, .int .i64 EA] 53)) SB wA [nB UA.heap.size PA LA JA GA HA EA, (BA.heap.size, .int .i64 0, .string ⟨#[]⟩, .slice none 0 0, .int .i64 AA), zB w.heap.size]) := hj (QC.out.alloc _ _ _ _)
    have CB : Hid (Rw w.heap.size (World.alloc UA (.cells #[.int .i64 PA, .string ⟨LA.toArray⟩, .slice JA GA.length HA, .int .i64 EA] 53)) [UA.heap.size, BA.heap.size, w.heap.size] GA JA) := hj (RC.out.alloc _)
    clear QC RC
    generalize World.alloc UA (.cells #[.int .i64 PA, .string ⟨LA.toArray⟩, .slice JA GA.length HA, .int .i64 EA] 53) = lD at dA CB ⊢
    have SC := rtake_any C SB wA [41] lD dA.out.st
    obtain ⟨vD, nA⟩ : ∃ pl, placeT C.ts C.s.size wA = pl := ⟨_, rfl⟩
    rw [nA] at SC
    have fC := hj nA
    clear nA
    go_wp2_with fail
    (with_reducible refine SC.mono ?_)
    clear SC
    rintro e eA ⟨TC, UC, yD, VC, rfl, WC, DB⟩
    have hM1056' := VC.place
    rw [fC.out] at hM1056'
    clear VC
    have oA : Hid (NSt C w eA TC UC [nB UA.heap.size PA LA JA GA HA EA, (BA.heap.size, .int .i64 0, .string ⟨#[]⟩, .slice none 0 0, .int .i64 AA), zB w.heap.size]) := hj (dA.out.call WC DB)
    have XC : Hid (Rw w.heap.size eA [UA.heap.size, BA.heap.size, w.heap.size] GA JA) := hj (CB.out.call dA.out.pb DB)
    clear dA CB DB WC
    have HM : Hid (Mt R TC UC (.mk PA LA GA EA)) := by
      show Mt _ _ _ _
      rw [CE.out, hM1056'.bind]
      exact Mt.ret _ _ _
    clear hM1056' CE
    obtain ⟨x0, x1, x2, x3, xf⟩ : BoxF eA (UA.heap.size) (.int .i64 PA) (.string ⟨LA.toArray⟩) (.slice JA GA.length HA) (.int .i64 EA) := oA.out.at_ (List.Mem.head _)
    obtain ⟨r0, r1, r2, r3, rf⟩ : BoxF eA (w.heap.size) (.int .i64 0) (.string ⟨#[]⟩) (.slice none 0 0) (.int .i64 0) := oA.out.at_ (List.Mem.tail _ (List.Mem.tail _ (List.Mem.head _)))
    have YC : Hid (NSt C w (S4 eA w.heap.size (.int .i64 PA) (.string ⟨LA.toArray⟩) (.slice JA GA.length HA) (.int .i64 EA)) TC UC [nB UA.heap.size PA LA JA GA HA EA, (BA.heap.size, .int .i64 0, .string ⟨#[]⟩, .slice none 0 0, .int .i64 AA), nB w.heap.size PA LA JA GA HA EA]) := hj (NSt.set4 (pre := [nB UA.heap.size PA LA JA GA HA EA, (BA.heap.size, .int .i64 0, .string ⟨#[]⟩, .slice none 0 0, .int .i64 AA)]) oA.out)
    have ZC : Hid (Rw w.heap.size (S4 eA w.heap.size (.int .i64 PA) (.string ⟨LA.toArray⟩) (.slice JA GA.length HA) (.int .i64 EA)) [UA.heap.size, BA.heap.size, w.heap.size] GA JA) := hj (XC.out.set4 (List.Mem.tail _ (List.Mem.tail _ (List.Mem.head _))))
    have HW : Hid (w.heap.size ≤ w.heap.size) := hj (Nat.le_refl _)
    have HF : Hid (RFinN C w (atomO C.ts C.s.size ex f) false p (.returned (.agg #[.int .i64 PA, .string ⟨LA.toArray⟩, .slice JA GA.length HA, .int .i64 EA])) (S4 eA w.heap.size (.int .i64 PA) (.string ⟨LA.toArray⟩) (.slice JA GA.length HA) (.int .i64 EA))) := hj (NSt.fin (n := LA) (l := GA) YC.out HW.out (by rw [HR.out]; exact HM.out) ZC.out)
    clear oA YC HW HM ZC XC
    go_wp2_with fail
    exact ret_node rfl rfl rfl (by simp [go_sem, r0]) (by simp [go_sem, r1]) (by simp [go_sem, r2]) (by simp [go_sem, r3]) HF.out
theorem block_out {C : Ctx} {st : Nat → Res Nd} {acc : List Nd} {f p : Nat} {E b : Bool} (hne : Tot (blockL C.ts st f acc) b p ≠ .out) (hi : (!b && isT C.ts p [125]) = E) (hE : (!E && !b) = false) {b' : Bool} {p' a : Nat} (ht : Mt (Tot (takeP C.ts C.s.size [125]) b p) b' p' a) : Mt (Tot (blockL C.ts st f acc) b p) b' p' acc := by
  cases b
  · cases E
    · simp at hE
    · have h1 : isT C.ts p [125] = true := by simpa using hi
      rw [tot_go, takeP, if_pos h1] at ht
      rw [tot_go] at hne ⊢
      cases f with
      | zero => exact absurd rfl hne
      | succ f =>
        rw [blockL, if_pos h1]
        exact ⟨ht.1, ht.2.1, rfl⟩
  · exact ht
set_option maxHeartbeats 4000000 in
set_option maxRecDepth 100000 in
theorem rparams_any (C : Ctx) (f : Nat) (hf : f ≤ 8192) : ROne C 84 (paramsP C.ts C.s.size f) := by
  intro w b p h hne
  obtain ⟨R, hR⟩ : ∃ R, Tot (paramsP C.ts C.s.size f) b p = R := ⟨_, rfl⟩
  have HT : Hid (R = Tot (paramsP C.ts C.s.size f) b p) := hj hR.symm
  rw [hR] at hne
  have HR := hj hR
  have HNE := hj hne
  have yA : Hid (NSt C w w b p []) := NSt.start h
  clear hR hne h
  obtain ⟨i0, SC, TC, UC, VC⟩ := info_parts Tryz.infoNode
  go_enter Tryz.func84, Tryz.ntmps84
  go_upto_region 1 with (fail)
  have XA : Hid (NSt C w (World.alloc w (.cells #[.int .i64 0, .string ⟨#[]⟩, .slice none 0 0, .int .i64 0] 53)) b p [zB w.heap.size]) := hj (yA.out.alloc _ _ _ _)
  clear yA
  generalize World.alloc w (.cells #[.int .i64 0, .string ⟨#[]⟩, .slice none 0 0, .int .i64 0] 53) = AA at XA ⊢
  have IC : Hid (w.heap.size < AA.heap.size) := hj (XA.out.lt _ (List.Mem.head _))
  go_upto_region 2 with (fail)
  have YA : Hid (NSt C w (World.alloc AA (.cells #[.int .i64 4, .string ⟨#[]⟩, .slice none 0 0, .int .i64 0] 53)) b p [(AA.heap.size, .int .i64 4, .string ⟨#[]⟩, .slice none 0 0, .int .i64 0), zB w.heap.size]) := hj (XA.out.alloc _ _ _ _)
  clear XA
  generalize World.alloc AA (.cells #[.int .i64 4, .string ⟨#[]⟩, .slice none 0 0, .int .i64 0] 53) = tB at YA ⊢
  have MC : Hid (R = (Tot (takeP C.ts C.s.size [40]) b p).bind fun a q => (rowG C.ts C.s.size (nameN C.ts C.s.size) f [41] q).bind fun l r => .ok (.mk 4 [] l a) r) := by
    show R = _
    rw [HT.out, ← tot_bind]
    rfl
  clear HT
  have TB := rtake_any C b p [40] tB YA.out.st
  obtain ⟨BA, OA⟩ : ∃ pl, placeT C.ts C.s.size p = pl := ⟨_, rfl⟩
  rw [OA] at TB
  have UB := hj OA
  clear OA
  go_wp2_with fail
  (with_reducible refine TB.mono ?_)
  clear TB
  rintro e vA ⟨EA, FA, AC, zA, rfl, AB, BB⟩
  have hM762' := zA.place
  rw [UB.out] at hM762'
  clear zA
  have bA : Hid (NSt C w vA EA FA [(AA.heap.size, .int .i64 4, .string ⟨#[]⟩, .slice none 0 0, .int .i64 0), zB w.heap.size]) := hj (YA.out.call AB BB)
  clear YA BB AB
  have JC : Hid (R = (Tot (rowG C.ts C.s.size (nameN C.ts C.s.size) f [41]) EA FA).bind fun l r => .ok (.mk 4 [] l (BA : Int)) r) := by
    show R = _
    rw [MC.out, hM762'.bind, ← tot_bind]
  clear hM762' MC
  obtain ⟨n0, n1, n2, n3, nf⟩ : BoxF vA (AA.heap.size) (.int .i64 4) (.string ⟨#[]⟩) (.slice none 0 0) (.int .i64 0) := bA.out.at_ (List.Mem.head _)
  go_upto_region 3 with (fail)
  clear n0 n1 n2 n3 nf
  have JA : Hid (NSt C w (World.setCell vA ⟨AA.heap.size, 3, none⟩ (.int .i64 BA)) EA FA [(AA.heap.size, .int .i64 4, .string ⟨#[]⟩, .slice none 0 0, .int .i64 BA), zB w.heap.size]) := hj (NSt.set3 (pre := []) bA.out)
  clear bA
  generalize World.setCell vA ⟨AA.heap.size, 3, none⟩ (.int .i64 BA) = lB at JA ⊢
  have VB := ris_any C EA FA [41] lB JA.out.st
  obtain ⟨WB, cA⟩ : ∃ E, (!EA && isT C.ts FA [41]) = E := ⟨_, rfl⟩
  rw [cA] at VB
  have dA := hj cA
  clear cA
  go_wp2_with fail
  (with_reducible refine VB.mono ?_)
  clear VB
  rintro e mB ⟨rfl, eA⟩
  have fA := JA.out.st.below eA
  have gA : Ow C.pb lB mB := Ow.of_below eA
  clear eA
  have ZA : Hid (NSt C w mB EA FA [(AA.heap.size, .int .i64 4, .string ⟨#[]⟩, .slice none 0 0, .int .i64 BA), zB w.heap.size]) := hj (JA.out.call fA gA)
  clear JA gA fA
  obtain ⟨R1, FC⟩ : ∃ R1, Tot (rowG C.ts C.s.size (nameN C.ts C.s.size) f [41]) EA FA = R1 := ⟨_, rfl⟩
  have WC : Hid (R1 ≠ .out) := hj fun e => HNE.out (by rw [JC.out, FC, e]; rfl)
  have HRM : Hid (∀ b' p' l, Mt R1 b' p' l → Mt R b' p' (.mk 4 [] l (BA : Int))) := hj fun b' p' l hM => by
    rw [JC.out, FC, hM.bind]
    exact Mt.ret _ _ _
  have HL : Hid (R1 = loopR C.ts C.s.size (nameN C.ts C.s.size) [41] WB EA [] f FA) := by
    show R1 = _
    rw [← FC, loop_in, dA.out]
  have NC : Hid (WB = true → EA = false → isT C.ts FA [41] = true) := hj fun h1 h2 => by
    have h3 := dA.out
    rw [h1, h2] at h3
    simpa using h3
  clear dA FC JC
  go_wp2_with fail
  have HLO : Hid (w.heap.size < AA.heap.size ∧ w.heap.size ≤ w.heap.size ∧ C.pb < w.heap.size) := by
    have h1 := IC.out
    exact ⟨h1, (ZA.out.bx _ (List.Mem.tail _ (List.Mem.head _))).1, ZA.out.pb⟩
  go_loopg [4] (f + 1) (fun g u wx => ∃ (acc : List Nd) (E b : Bool) (q f0 : Nat) (v : Value), u = .bool E ∧ RowOwn wx (AA.heap.size + 1) v acc ∧ NSt C w wx b q [(AA.heap.size, .int .i64 4, .string ⟨#[]⟩, v, .int .i64 BA), zB w.heap.size] ∧ Hid (R1 = loopR C.ts C.s.size (nameN C.ts C.s.size) [41] E b acc f0 q) ∧ Hid (E = true → b = false → isT C.ts q [41] = true) ∧ acc.length + g ≤ f + 1 ∧ (b = true ∨ f0 + 1 ≤ g))
  case atStart => exact ⟨[], WB, EA, FA, f, _, rfl, RowOwn.nil _ _, ZA.out, HL, NC, by simp, .inr (Nat.le_refl _)⟩
  case round =>
    clear ZA HL NC
    obtain ⟨acc, E, b9, q, f0, v, rfl, hrow, hN, hS, hE, hlen, GC⟩ := hrel
    obtain ⟨va, vc, rfl, hca, -⟩ := hrow.shape
    have HNr := hj hN
    have HROW := hj hrow
    clear hN hrow
    cases E
    · cases b9
      · obtain ⟨c0, c1, c2, c3, -⟩ := HNr.out.st.cellsF
        have aC : f0 + 1 ≤ gk := GC.resolve_left (by decide)
        clear GC
        have hal : acc.length ≤ 8193 := by omega
        have XB := rplace_any C false q wr HNr.out.st
        obtain ⟨CA, PA⟩ : ∃ pl, placeT C.ts C.s.size q = pl := ⟨_, rfl⟩
        rw [PA] at XB
        have YB := hj PA
        clear PA
        go_wp2_with fail
        (with_reducible refine XB.mono ?_)
        clear XB
        rintro e wA ⟨rfl, hA⟩
        have iA := HNr.out.st.below hA
        have QA : Ow C.pb wr wA := Ow.of_below hA
        clear hA
        have KA : Hid (NSt C w wA false q [(AA.heap.size, .int .i64 4, .string ⟨#[]⟩, .slice va acc.length vc, .int .i64 BA), zB w.heap.size]) := hj (HNr.out.call iA QA)
        have CB : Hid (RowOwn wA (AA.heap.size + 1) (.slice va acc.length vc) acc) := hj (HROW.out.ow QA (Nat.lt_succ_of_le (Nat.le_of_lt (Nat.lt_of_lt_of_le HNr.out.pb (show w.heap.size ≤ AA.heap.size from (HNr.out.bx _ (List.Mem.head _)).1)))))
        clear HROW
        clear HNr QA iA
        clear c0 c1 c2 c3
        have oB := rnameq_any C false q wA KA.out.st
        go_wp2_with fail
        (with_reducible refine oB.mono ?_)
        clear oB
        rintro e aA ⟨IA, GA, DA, DB, rfl, EB, jA⟩
        have LA : Hid (NSt C w aA IA GA [(AA.heap.size, .int .i64 4, .string ⟨#[]⟩, .slice va acc.length vc, .int .i64 BA), zB w.heap.size]) := hj (KA.out.call EB jA)
        have FB : Hid (RowOwn aA (AA.heap.size + 1) (.slice va acc.length vc) acc) := hj (CB.out.ow jA (Nat.lt_succ_of_le (Nat.le_of_lt (Nat.lt_of_lt_of_le KA.out.pb (show w.heap.size ≤ AA.heap.size from (KA.out.bx _ (List.Mem.head _)).1)))))
        clear CB
        clear KA jA EB
        have HMx : Hid (Mt (Tot (nameN C.ts C.s.size) false q) IA GA (Nd.mk 10 DA [] (CA : Int))) := by
          show Mt _ _ _ _
          rw [nameN_tot, DB.bind, YB.out]
          exact Mt.ret _ _ _
        clear DB
        obtain ⟨n0, n1, n2, n3, nf⟩ : BoxF aA (AA.heap.size) (.int .i64 4) (.string ⟨#[]⟩) (.slice va acc.length vc) (.int .i64 BA) := LA.out.at_ (List.Mem.head _)
        have XC : AA.heap.size + 1 ≤ aA.heap.size := LA.out.lt _ (List.Mem.head _)
        have hlo : ∀ x ∈ ([(AA.heap.size, .int .i64 4, .string ⟨#[]⟩, .slice va acc.length vc, .int .i64 BA), zB w.heap.size] : List Bx), x.1 < (AA.heap.size + 1) := fun x hx => by have := HLO.out; simp only [List.mem_cons, List.not_mem_nil, or_false] at hx; rcases hx with rfl | rfl <;> (try dsimp only [zB]) <;> omega
        have HLOW := hj hlo
        clear hlo
        have HWB : Hid (w.heap.size ≤ (AA.heap.size + 1)) := hj (Nat.le_succ_of_le (show w.heap.size ≤ AA.heap.size from (LA.out.bx _ (List.Mem.head _)).1))
        go_wp2_with (at_builtin; refine Hold.out ?_)
        refine Hold.put ?_
        obtain ⟨xs, hown, hfl⟩ := FB.out
        have hlt := fun j hj => hown.lt j hj
        refine wpList_append_fresh _ rfl (.tmp 27) (.tmp 31) 22 rfl (AA.heap.size + 1) 53 i0 (.agg #[.int .i64 0, .string ⟨#[]⟩, .slice none 0 0, .int .i64 0]) 4 56 Tryz.underlying22 SC TC UC VC rfl (by decide) _ _ _ rfl (hown.alloc _) ⟨aA.heap.size, 0, none⟩ 1 1 [.int .i64 10, .string ⟨DA.toArray⟩, .slice none 0 0, .int .i64 CA] rfl rfl (cell_four_new _ _ _ _ _ _) (fun x hx => by simp at hx; rcases hx with rfl | rfl | rfl | rfl <;> rfl) (by unfold maxLen; omega) (by omega) (by simp; omega) ?_
        intro v' w6 hown' hgrow hfresh
        obtain ⟨va', vc', rfl, KC, OC⟩ := NSt.app (S := aA.heap.size) LA.out HLOW.out HWB.out ((Below.refl _ _).alloc (Nat.le_refl _) _) hown hfl (show NdRow _ _ [] none from trivial) (fun j hj => (hlt j hj).2) (by omega) hown' hgrow hfresh
        obtain ⟨z0, z1, z2, z3, zf⟩ : BoxF w6 AA.heap.size (.int .i64 4) (.string ⟨#[]⟩) (.slice va acc.length vc) (.int .i64 BA) := KC.at_ (List.Mem.head _)
        have PC := hj KC
        have QC := hj OC
        clear KC OC hown hfl hlt hown' hgrow hfresh
        clear FB LA
        clear n0 n1 n2 n3 nf
        go_upto_region 8 with (fail)
        have LC : Hid (RowOwn (World.setCell w6 ⟨AA.heap.size, 2, none⟩ (.slice va' (acc.length + 1) vc')) (AA.heap.size + 1) (.slice va' (acc.length + 1) vc') (acc ++ [(Nd.mk 10 DA [] (CA : Int))])) := hj (QC.out.set (Nat.lt_succ_self _))
        clear QC z0 z1 z2 z3 zf
        have EC : Hid (NSt C w (World.setCell w6 ⟨AA.heap.size, 2, none⟩ (.slice va' (acc.length + 1) vc')) IA GA [(AA.heap.size, .int .i64 4, .string ⟨#[]⟩, .slice va' (acc.length + 1) vc', .int .i64 BA), zB w.heap.size]) := hj (NSt.set2 (pre := []) PC.out)
        clear PC
        generalize World.setCell w6 ⟨AA.heap.size, 2, none⟩ (.slice va' (acc.length + 1) vc') = w7 at EC LC ⊢
        have HST := hj (loop_step (ts := C.ts) (L := C.s.size) (e := [41]) (acc := acc) (f := f0) (one := nameN C.ts C.s.size) (show Mt (nameN C.ts C.s.size q) IA GA _ from HMx.out) (by rw [← hS.out]; exact WC.out))
        clear HMx
        have ZB := ris_any C IA GA [41] w7 EC.out.st
        obtain ⟨vB, kA⟩ : ∃ E, (!IA && isT C.ts GA [41]) = E := ⟨_, rfl⟩
        rw [kA] at ZB
        have lA := hj kA
        clear kA
        go_wp2_with fail
        (with_reducible refine ZB.mono ?_)
        clear ZB
        rintro e xA ⟨rfl, mA⟩
        have nA := EC.out.st.below mA
        have RA : Ow C.pb w7 xA := Ow.of_below mA
        clear mA
        have HA : Hid (NSt C w xA IA GA [(AA.heap.size, .int .i64 4, .string ⟨#[]⟩, .slice va' (acc.length + 1) vc', .int .i64 BA), zB w.heap.size]) := hj (EC.out.call nA RA)
        have oA : Hid (RowOwn xA (AA.heap.size + 1) (.slice va' (acc.length + 1) vc') (acc ++ [(Nd.mk 10 DA [] (CA : Int))])) := hj (LC.out.ow RA (Nat.lt_succ_of_le (Nat.le_of_lt (Nat.lt_of_lt_of_le EC.out.pb (show w.heap.size ≤ AA.heap.size from (EC.out.bx _ (List.Mem.head _)).1)))))
        clear LC
        clear EC RA nA
        cases vB
        · have aB := rtake_any C IA GA [44] xA HA.out.st
          obtain ⟨wB, SA⟩ : ∃ pl, placeT C.ts C.s.size GA = pl := ⟨_, rfl⟩
          rw [SA] at aB
          have bB := hj SA
          clear SA
          go_wp2_with fail
          (with_reducible refine aB.mono ?_)
          clear aB
          rintro e pB ⟨cB, qB, BC, GB, rfl, HB, pA⟩
          have hM801' := GB.place
          rw [bB.out] at hM801'
          clear GB
          have rB : Hid (NSt C w pB cB qB [(AA.heap.size, .int .i64 4, .string ⟨#[]⟩, .slice va' (acc.length + 1) vc', .int .i64 BA), zB w.heap.size]) := hj (HA.out.call HB pA)
          have sB : Hid (RowOwn pB (AA.heap.size + 1) (.slice va' (acc.length + 1) vc') (acc ++ [(Nd.mk 10 DA [] (CA : Int))])) := hj (oA.out.ow pA (Nat.lt_succ_of_le (Nat.le_of_lt (Nat.lt_of_lt_of_le HA.out.pb (show w.heap.size ≤ AA.heap.size from (HA.out.bx _ (List.Mem.head _)).1)))))
          clear oA
          clear HA pA HB
          obtain ⟨g', hg', HC⟩ := HST.out.2 lA.out _ _ _ hM801'
          have YC := hj HC
          have RC : cB = true ∨ g' + 1 ≤ gk - 1 := hg'.imp id fun e => by omega
          have ZC := hj RC
          clear hg' HC RC hM801'
          go_wp2_with fail
          go_roundg (gk - 1)
          case measure => omega
          case rel => exact ⟨(acc ++ [(Nd.mk 10 DA [] (CA : Int))]), false, cB, qB, g', _, rfl, sB.out, rB.out, hj (hS.out.trans YC.out), hj (fun e => nomatch e), by simp; omega, ZC.out⟩
        · go_wp2_with fail
          go_roundg (gk - 1)
          case measure => omega
          obtain ⟨g', hg', HC⟩ := HST.out.1 lA.out
          case rel => exact ⟨(acc ++ [(Nd.mk 10 DA [] (CA : Int))]), true, IA, GA, g', _, rfl, oA.out, HA.out, hj (hS.out.trans HC), hj (fun _ h2 => by have h3 := lA.out; rw [h2] at h3; simpa using h3), by simp; omega, .inr (by omega)⟩
      · obtain ⟨g0, c0, c1, c2, c3, -⟩ := HNr.out.st.cellsT
        have HLV : Hid (∀ b' p' a, Mt (Tot (takeP C.ts C.s.size [41]) true q) b' p' a → Mt R1 b' p' acc) := hj fun b' p' a ht => by
          rw [hS.out]
          exact loop_out (E := false) (by first | rfl | decide) hE.out ht
        clear hS hE GC
        have dB := rtake_any C true q [41] wr HNr.out.st
        obtain ⟨xB, TA⟩ : ∃ pl, placeT C.ts C.s.size q = pl := ⟨_, rfl⟩
        rw [TA] at dB
        have eB := hj TA
        clear TA
        go_wp2_with fail
        (with_reducible refine dB.mono ?_)
        clear dB
        rintro e UA ⟨fB, gB, CC, IB, rfl, JB, qA⟩
        have hM812' := IB.place
        rw [eB.out] at hM812'
        clear IB
        have MA : Hid (NSt C w UA fB gB [(AA.heap.size, .int .i64 4, .string ⟨#[]⟩, .slice va acc.length vc, .int .i64 BA), zB w.heap.size]) := hj (HNr.out.call JB qA)
        have rA : Hid (RowOwn UA (AA.heap.size + 1) (.slice va acc.length vc) acc) := hj (HROW.out.ow qA (Nat.lt_succ_of_le (Nat.le_of_lt (Nat.lt_of_lt_of_le HNr.out.pb (show w.heap.size ≤ AA.heap.size from (HNr.out.bx _ (List.Mem.head _)).1)))))
        clear HROW
        clear HNr qA JB
        have HM : Hid (Mt R fB gB (.mk 4 [] acc (BA : Int))) := hj (HRM.out _ _ _ (HLV.out _ _ _ hM812'))
        clear hM812' HLV
        have hcap := rA.out.cap
        obtain ⟨va', vc', hv', hrw⟩ := rA.out.rw (ads := [AA.heap.size, w.heap.size]) (fun a ha => by have := HLO.out; simp only [List.mem_cons, List.not_mem_nil, or_false] at ha; rcases ha with rfl | rfl <;> omega)
        simp only [Value.slice.injEq] at hv'
        obtain ⟨rfl, -, rfl⟩ := hv'
        have KB := hj hrw
        clear hrw rA
        obtain ⟨n0, n1, n2, n3, nf⟩ : BoxF UA (AA.heap.size) (.int .i64 4) (.string ⟨#[]⟩) (.slice va acc.length vc) (.int .i64 BA) := MA.out.at_ (List.Mem.head _)
        obtain ⟨r0, r1, r2, r3, rf⟩ : BoxF UA (w.heap.size) (.int .i64 0) (.string ⟨#[]⟩) (.slice none 0 0) (.int .i64 0) := MA.out.at_ (List.Mem.tail _ (List.Mem.head _))
        have LB : Hid (NSt C w (S4 UA w.heap.size (.int .i64 4) (.string ⟨#[]⟩) (.slice va acc.length vc) (.int .i64 BA)) fB gB [(AA.heap.size, .int .i64 4, .string ⟨#[]⟩, .slice va acc.length vc, .int .i64 BA), (w.heap.size, .int .i64 4, .string ⟨#[]⟩, .slice va acc.length vc, .int .i64 BA)]) := hj (NSt.set4 (pre := [(AA.heap.size, .int .i64 4, .string ⟨#[]⟩, .slice va acc.length vc, .int .i64 BA)]) MA.out)
        have MB : Hid (Rw (AA.heap.size + 1) (S4 UA w.heap.size (.int .i64 4) (.string ⟨#[]⟩) (.slice va acc.length vc) (.int .i64 BA)) [AA.heap.size, w.heap.size] acc va) := hj (KB.out.set4 (List.Mem.tail _ (List.Mem.head _)))
        have HW : Hid (w.heap.size ≤ (AA.heap.size + 1)) := hj (Nat.le_succ_of_le (show w.heap.size ≤ AA.heap.size from (MA.out.bx _ (List.Mem.head _)).1))
        have HF : Hid (RFinN C w (paramsP C.ts C.s.size f) b p (.returned (.agg #[.int .i64 4, .string ⟨#[]⟩, .slice va acc.length vc, .int .i64 BA])) (S4 UA w.heap.size (.int .i64 4) (.string ⟨#[]⟩) (.slice va acc.length vc) (.int .i64 BA))) := hj (NSt.fin (n := []) (l := acc) LB.out HW.out (by rw [HR.out]; exact HM.out) MB.out)
        clear MA LB HW HM MB KB
        go_wp2_with fail
        exact ret_node rfl rfl rfl (by simp [go_sem, r0]) (by simp [go_sem, r1]) (by simp [go_sem, r2]) (by simp [go_sem, r3]) HF.out
    · have HLV : Hid (∀ b' p' a, Mt (Tot (takeP C.ts C.s.size [41]) b9 q) b' p' a → Mt R1 b' p' acc) := hj fun b' p' a ht => by
        rw [hS.out]
        exact loop_out (E := true) (by first | rfl | decide) hE.out ht
      clear hS hE GC
      have hB := rtake_any C b9 q [41] wr HNr.out.st
      obtain ⟨yB, VA⟩ : ∃ pl, placeT C.ts C.s.size q = pl := ⟨_, rfl⟩
      rw [VA] at hB
      have iB := hj VA
      clear VA
      go_wp2_with fail
      (with_reducible refine hB.mono ?_)
      clear hB
      rintro e WA ⟨jB, kB, DC, NB, rfl, OB, sA⟩
      have hM826' := NB.place
      rw [iB.out] at hM826'
      clear NB
      have NA : Hid (NSt C w WA jB kB [(AA.heap.size, .int .i64 4, .string ⟨#[]⟩, .slice va acc.length vc, .int .i64 BA), zB w.heap.size]) := hj (HNr.out.call OB sA)
      have tA : Hid (RowOwn WA (AA.heap.size + 1) (.slice va acc.length vc) acc) := hj (HROW.out.ow sA (Nat.lt_succ_of_le (Nat.le_of_lt (Nat.lt_of_lt_of_le HNr.out.pb (show w.heap.size ≤ AA.heap.size from (HNr.out.bx _ (List.Mem.head _)).1)))))
      clear HROW
      clear HNr sA OB
      have HM : Hid (Mt R jB kB (.mk 4 [] acc (BA : Int))) := hj (HRM.out _ _ _ (HLV.out _ _ _ hM826'))
      clear hM826' HLV
      have hcap := tA.out.cap
      obtain ⟨va', vc', hv', hrw⟩ := tA.out.rw (ads := [AA.heap.size, w.heap.size]) (fun a ha => by have := HLO.out; simp only [List.mem_cons, List.not_mem_nil, or_false] at ha; rcases ha with rfl | rfl <;> omega)
      simp only [Value.slice.injEq] at hv'
      obtain ⟨rfl, -, rfl⟩ := hv'
      have PB := hj hrw
      clear hrw tA
      obtain ⟨n0, n1, n2, n3, nf⟩ : BoxF WA (AA.heap.size) (.int .i64 4) (.string ⟨#[]⟩) (.slice va acc.length vc) (.int .i64 BA) := NA.out.at_ (List.Mem.head _)
      obtain ⟨r0, r1, r2, r3, rf⟩ : BoxF WA (w.heap.size) (.int .i64 0) (.string ⟨#[]⟩) (.slice none 0 0) (.int .i64 0) := NA.out.at_ (List.Mem.tail _ (List.Mem.head _))
      have QB : Hid (NSt C w (S4 WA w.heap.size (.int .i64 4) (.string ⟨#[]⟩) (.slice va acc.length vc) (.int .i64 BA)) jB kB [(AA.heap.size, .int .i64 4, .string ⟨#[]⟩, .slice va acc.length vc, .int .i64 BA), (w.heap.size, .int .i64 4, .string ⟨#[]⟩, .slice va acc.length vc, .int .i64 BA)]) := hj (NSt.set4 (pre := [(AA.heap.size, .int .i64 4, .string ⟨#[]⟩, .slice va acc.length vc, .int .i64 BA)]) NA.out)
      have SB : Hid (Rw (AA.heap.size + 1) (S4 WA w.heap.size (.int .i64 4) (.string ⟨#[]⟩) (.slice va acc.length vc) (.int .i64 BA)) [AA.heap.size, w.heap.size] acc va) := hj (PB.out.set4 (List.Mem.tail _ (List.Mem.head _)))
      have HW : Hid (w.heap.size ≤ (AA.heap.size + 1)) := hj (Nat.le_succ_of_le (show w.heap.size ≤ AA.heap.size from (NA.out.bx _ (List.Mem.head _)).1))
      have HF : Hid (RFinN C w (paramsP C.ts C.s.size f) b p (.returned (.agg #[.int .i64 4, .string ⟨#[]⟩, .slice va acc.length vc, .int .i64 BA])) (S4 WA w.heap.size (.int .i64 4) (.string ⟨#[]⟩) (.slice va acc.length vc) (.int .i64 BA))) := hj (NSt.fin (n := []) (l := acc) QB.out HW.out (by rw [HR.out]; exact HM.out) SB.out)
      clear NA QB HW HM SB PB
      go_wp2_with fail
      exact ret_node rfl rfl rfl (by simp [go_sem, r0]) (by simp [go_sem, r1]) (by simp [go_sem, r2]) (by simp [go_sem, r3]) HF.out
set_option maxHeartbeats 4000000 in
set_option maxRecDepth 100000 in
theorem rblock_any (C : Ctx) (st : Nat → Res Nd) (hx : ROneQ C 45 st) (f : Nat) (hf : f ≤ 8192) : ROne C 85 (blockO C.ts C.s.size st f) := by
  intro w b p h hne
  obtain ⟨R, hR⟩ : ∃ R, Tot (blockO C.ts C.s.size st f) b p = R := ⟨_, rfl⟩
  have HT : Hid (R = Tot (blockO C.ts C.s.size st f) b p) := hj hR.symm
  rw [hR] at hne
  have HR := hj hR
  have HNE := hj hne
  have HHX := hj hx
  have fA : Hid (NSt C w w b p []) := NSt.start h
  clear hR hne h hx
  obtain ⟨i0, qB, rB, sB, tB⟩ := info_parts Tryz.infoNode
  go_enter Tryz.func85, Tryz.ntmps85
  go_upto_region 1 with (fail)
  have PA : Hid (NSt C w (World.alloc w (.cells #[.int .i64 0, .string ⟨#[]⟩, .slice none 0 0, .int .i64 0] 53)) b p [zB w.heap.size]) := hj (fA.out.alloc _ _ _ _)
  clear fA
  generalize World.alloc w (.cells #[.int .i64 0, .string ⟨#[]⟩, .slice none 0 0, .int .i64 0] 53) = AA at PA ⊢
  have cB : Hid (w.heap.size < AA.heap.size) := hj (PA.out.lt _ (List.Mem.head _))
  go_upto_region 2 with (fail)
  have QA : Hid (NSt C w (World.alloc AA (.cells #[.int .i64 0, .string ⟨#[]⟩, .slice none 0 0, .int .i64 0] 53)) b p [zB AA.heap.size, zB w.heap.size]) := hj (PA.out.alloc _ _ _ _)
  clear PA
  generalize World.alloc AA (.cells #[.int .i64 0, .string ⟨#[]⟩, .slice none 0 0, .int .i64 0] 53) = QB at QA ⊢
  have hB : Hid (R = (Tot (takeP C.ts C.s.size [123]) b p).bind fun a q => (blockL C.ts st f [] q).bind fun l r => .ok (.mk 0 [] l a) r) := by
    show R = _
    rw [HT.out, ← tot_bind]
    rfl
  clear HT
  have wA := rtake_any C b p [123] QB QA.out.st
  obtain ⟨BA, JA⟩ : ∃ pl, placeT C.ts C.s.size p = pl := ⟨_, rfl⟩
  rw [JA] at wA
  have xA := hj JA
  clear JA
  go_wp2_with fail
  (with_reducible refine wA.mono ?_)
  clear wA
  rintro e eA ⟨CA, DA, VB, gA, rfl, hA, iA⟩
  have hM845' := gA.place
  rw [xA.out] at hM845'
  clear gA
  have SA : Hid (NSt C w eA CA DA [zB AA.heap.size, zB w.heap.size]) := hj (QA.out.call hA iA)
  clear QA iA hA
  have dB : Hid (R = (Tot (blockL C.ts st f []) CA DA).bind fun l r => .ok (.mk 0 [] l (BA : Int)) r) := by
    show R = _
    rw [hB.out, hM845'.bind, ← tot_bind]
  clear hM845' hB
  obtain ⟨n0, n1, n2, n3, nf⟩ : BoxF eA (AA.heap.size) (.int .i64 0) (.string ⟨#[]⟩) (.slice none 0 0) (.int .i64 0) := SA.out.at_ (List.Mem.head _)
  go_upto_region 3 with (fail)
  clear n0 n1 n2 n3 nf
  have FA : Hid (NSt C w (World.setCell eA ⟨AA.heap.size, 3, none⟩ (.int .i64 BA)) CA DA [(AA.heap.size, .int .i64 0, .string ⟨#[]⟩, .slice none 0 0, .int .i64 BA), zB w.heap.size]) := hj (NSt.set3 (pre := []) SA.out)
  clear SA
  generalize World.setCell eA ⟨AA.heap.size, 3, none⟩ (.int .i64 BA) = KB at FA ⊢
  have yA := ris_any C CA DA [125] KB FA.out.st
  obtain ⟨LB, TA⟩ : ∃ E, (!CA && isT C.ts DA [125]) = E := ⟨_, rfl⟩
  rw [TA] at yA
  have jA := hj TA
  clear TA
  go_wp2_with fail
  (with_reducible refine yA.mono ?_)
  clear yA
  rintro e MB ⟨rfl, UA⟩
  have VA := FA.out.st.below UA
  have WA : Ow C.pb KB MB := Ow.of_below UA
  clear UA
  have RA : Hid (NSt C w MB CA DA [(AA.heap.size, .int .i64 0, .string ⟨#[]⟩, .slice none 0 0, .int .i64 BA), zB w.heap.size]) := hj (FA.out.call VA WA)
  clear FA WA VA
  obtain ⟨R1, aB⟩ : ∃ R1, Tot (blockL C.ts st f []) CA DA = R1 := ⟨_, rfl⟩
  have ZB : Hid (R1 ≠ .out) := hj fun e => HNE.out (by rw [dB.out, aB, e]; rfl)
  have HRM : Hid (∀ b' p' l, Mt R1 b' p' l → Mt R b' p' (.mk 0 [] l (BA : Int))) := hj fun b' p' l hM => by
    rw [dB.out, aB, hM.bind]
    exact Mt.ret _ _ _
  have HL : Hid (R1 = Tot (blockL C.ts st f []) CA DA) := aB.symm
  have iB : Hid ((!CA && isT C.ts DA [125]) = LB) := jA
  clear jA aB dB
  go_wp2_with fail
  have HLO : Hid (w.heap.size < AA.heap.size ∧ w.heap.size ≤ w.heap.size ∧ C.pb < w.heap.size) := by
    have h1 := cB.out
    exact ⟨h1, (RA.out.bx _ (List.Mem.tail _ (List.Mem.head _))).1, RA.out.pb⟩
  go_loopg [4] f (fun g u wx => ∃ (acc : List Nd) (E b : Bool) (q f0 : Nat) (v : Value), u = .bool E ∧ RowOwn wx (AA.heap.size + 1) v acc ∧ NSt C w wx b q [(AA.heap.size, .int .i64 0, .string ⟨#[]⟩, v, .int .i64 BA), zB w.heap.size] ∧ Hid (R1 = Tot (blockL C.ts st f0 acc) b q) ∧ Hid ((!b && isT C.ts q [125]) = E) ∧ acc.length + g ≤ f ∧ f0 ≤ g)
  case atStart => exact ⟨[], LB, CA, DA, f, _, rfl, RowOwn.nil _ _, RA.out, HL, iB, by simp, Nat.le_refl _⟩
  case round =>
    clear RA HL iB
    obtain ⟨acc, E, b9, q, f0, v, rfl, hrow, hN, hS, hE, hlen, jB⟩ := hrel
    obtain ⟨va, vc, rfl, hca, -⟩ := hrow.shape
    have HNr := hj hN
    have HROW := hj hrow
    clear hN hrow
    cases E
    · cases b9
      · obtain ⟨c0, c1, c2, c3, -⟩ := HNr.out.st.cellsF
        obtain ⟨f1, rfl⟩ : ∃ f1, f0 = f1 + 1 := by
          cases f0 with
          | zero => exact absurd hS.out ZB.out
          | succ f1 => exact ⟨f1, rfl⟩
        have hal : acc.length ≤ 8192 := by omega
        have hni : isT C.ts q [125] = false := by have := hE.out; simpa using this
        have bB : Hid (R1 = (Tot st false q).bind fun x r => blockL C.ts st f1 (acc ++ [x]) r) := by
          show R1 = _
          rw [hS.out, tot_go, blockL, if_neg (by rw [hni]; decide)]
          rfl
        clear hni
        have HLTr : Hid (∀ j, (Value.slice va acc.length vc).ownBlock = some j → j < wr.heap.size) := by
          obtain ⟨DC, h1, _⟩ := HROW.out
          exact fun j hj => (h1.lt j hj).2
        have hszr : AA.heap.size + 1 ≤ wr.heap.size := HNr.out.lt _ (List.Mem.head _)
        have zA := HHX.out _ _ _ HNr.out.st (fun e => ZB.out (by rw [bB.out, e]; rfl)) ⟨_, fun e => ZB.out (by rw [bB.out, tot_go, e]; rfl)⟩
        unfold RFinN at zA
        go_wp2_with fail
        (with_reducible refine zA.mono ?_)
        clear zA
        rintro e GA ⟨b5, q5, k, n, kids, pp, y, c, hMx, rfl, kB, lB, eB⟩
        clear c0 c1 c2 c3
        have HMx := hj hMx
        have vB := hj kB
        clear hMx kB
        have EA : Hid (NSt C w GA b5 q5 [(AA.heap.size, .int .i64 0, .string ⟨#[]⟩, .slice va acc.length vc, .int .i64 BA), zB w.heap.size]) := hj (HNr.out.call lB eB)
        have kA : Hid (RowOwn GA (AA.heap.size + 1) (.slice va acc.length vc) acc) := hj (HROW.out.ow eB (Nat.lt_succ_of_le (Nat.le_of_lt (Nat.lt_of_lt_of_le HNr.out.pb (show w.heap.size ≤ AA.heap.size from (HNr.out.bx _ (List.Mem.head _)).1)))))
        clear HROW
        clear HNr eB lB
        obtain ⟨n0, n1, n2, n3, nf⟩ : BoxF GA (AA.heap.size) (.int .i64 0) (.string ⟨#[]⟩) (.slice va acc.length vc) (.int .i64 BA) := EA.out.at_ (List.Mem.head _)
        have wB := fun o => al_cell n0 o
        have xB := fun o => al_cell n1 o
        have yB := fun o => al_cell n2 o
        have AC := fun o => al_cell n3 o
        have naf : ∀ ob o, (World.alloc GA ob).frozen? ⟨AA.heap.size, o, none⟩ = false := fun ob o => ((EA.out.bx _ (List.Mem.head _)).2.alloc ob).facts.2.2.2.2 o
        have BC : AA.heap.size + 1 ≤ GA.heap.size := EA.out.lt _ (List.Mem.head _)
        have hlo : ∀ x ∈ ([(AA.heap.size, .int .i64 0, .string ⟨#[]⟩, .slice va acc.length vc, .int .i64 BA), zB w.heap.size] : List Bx), x.1 < (AA.heap.size + 1) := fun x hx => by have := HLO.out; simp only [List.mem_cons, List.not_mem_nil, or_false] at hx; rcases hx with rfl | rfl <;> (try dsimp only [zB]) <;> omega
        have HLOW := hj hlo
        clear hlo
        have HWB : Hid (w.heap.size ≤ (AA.heap.size + 1)) := hj (Nat.le_succ_of_le (show w.heap.size ≤ AA.heap.size from (EA.out.bx _ (List.Mem.head _)).1))
        go_wp2_with (at_builtin; refine Hold.out ?_)
        refine Hold.put ?_
        obtain ⟨xs, hown, hfl⟩ := kA.out
        have hlt := fun j hj => hown.lt j hj
        refine wpList_append_fresh _ rfl (.tmp 24) (.tmp 26) 22 rfl (AA.heap.size + 1) 53 i0 (.agg #[.int .i64 0, .string ⟨#[]⟩, .slice none 0 0, .int .i64 0]) 4 56 Tryz.underlying22 qB rB sB tB rfl (by decide) _ _ _ rfl ((hown.alloc _).alloc _) ⟨GA.heap.size + 1, 0, none⟩ 1 1 [.int .i64 k, .string ⟨n.toArray⟩, .slice y kids.length c, .int .i64 pp] rfl rfl (by rw [show (GA.heap.size + 1) = (GA.alloc (.cells #[.int .i64 k, .string ⟨n.toArray⟩, .slice y kids.length c, .int .i64 pp] 53)).heap.size by simp]; exact cell_four_new _ _ _ _ _ _) (fun x hx => by simp at hx; rcases hx with rfl | rfl | rfl | rfl <;> rfl) (by unfold maxLen; omega) (by omega) (by simp; omega) ?_
        intro v' w6 hown' hgrow hfresh
        obtain ⟨va', vc', rfl, fB, mB⟩ := NSt.app (S := wr.heap.size) EA.out HLOW.out HWB.out (((Below.refl _ _).alloc (Nat.le_refl _) _).alloc (by simp) _) hown hfl vB.out HLTr.out (by omega) hown' hgrow hfresh
        obtain ⟨z0, z1, z2, z3, zf⟩ : BoxF w6 AA.heap.size (.int .i64 0) (.string ⟨#[]⟩) (.slice va acc.length vc) (.int .i64 BA) := fB.at_ (List.Mem.head _)
        have oB := hj fB
        have pB := hj mB
        clear fB mB hown hfl hlt hown' hgrow hfresh
        clear kA EA
        clear n0 n1 n2 n3 nf
        clear wB xB yB AC naf
        go_upto_region 7 with (fail)
        have gB : Hid (RowOwn (World.setCell w6 ⟨AA.heap.size, 2, none⟩ (.slice va' (acc.length + 1) vc')) (AA.heap.size + 1) (.slice va' (acc.length + 1) vc') (acc ++ [(Nd.mk k n kids pp)])) := hj (pB.out.set (Nat.lt_succ_self _))
        clear pB z0 z1 z2 z3 zf
        have YB : Hid (NSt C w (World.setCell w6 ⟨AA.heap.size, 2, none⟩ (.slice va' (acc.length + 1) vc')) b5 q5 [(AA.heap.size, .int .i64 0, .string ⟨#[]⟩, .slice va' (acc.length + 1) vc', .int .i64 BA), zB w.heap.size]) := hj (NSt.set2 (pre := []) oB.out)
        clear oB
        generalize World.setCell w6 ⟨AA.heap.size, 2, none⟩ (.slice va' (acc.length + 1) vc') = w7 at YB gB ⊢
        have CC : Hid (R1 = Tot (blockL C.ts st f1 (acc ++ [(Nd.mk k n kids pp)])) b5 q5) := by
          show R1 = _
          rw [bB.out, HMx.out.bind]
        clear HMx bB
        have AB := ris_any C b5 q5 [125] w7 YB.out.st
        obtain ⟨SB, XA⟩ : ∃ E, (!b5 && isT C.ts q5 [125]) = E := ⟨_, rfl⟩
        rw [XA] at AB
        have NB := hj XA
        clear XA
        go_wp2_with fail
        (with_reducible refine AB.mono ?_)
        clear AB
        rintro e BB ⟨rfl, YA⟩
        have ZA := YB.out.st.below YA
        have KA : Ow C.pb w7 BB := Ow.of_below YA
        clear YA
        have OB : Hid (NSt C w BB b5 q5 [(AA.heap.size, .int .i64 0, .string ⟨#[]⟩, .slice va' (acc.length + 1) vc', .int .i64 BA), zB w.heap.size]) := hj (YB.out.call ZA KA)
        have PB : Hid (RowOwn BB (AA.heap.size + 1) (.slice va' (acc.length + 1) vc') (acc ++ [(Nd.mk k n kids pp)])) := hj (gB.out.ow KA (Nat.lt_succ_of_le (Nat.le_of_lt (Nat.lt_of_lt_of_le YB.out.pb (show w.heap.size ≤ AA.heap.size from (YB.out.bx _ (List.Mem.head _)).1)))))
        clear gB
        clear YB KA ZA
        go_wp2_with fail
        go_roundg (gk - 1)
        case measure => omega
        case rel => exact ⟨(acc ++ [(Nd.mk k n kids pp)]), SB, b5, q5, f1, _, rfl, PB.out, OB.out, CC, NB, by simp; omega, by omega⟩
      · obtain ⟨g0, c0, c1, c2, c3, -⟩ := HNr.out.st.cellsT
        have HLV : Hid (∀ b' p' a, Mt (Tot (takeP C.ts C.s.size [125]) true q) b' p' a → Mt R1 b' p' acc) := hj fun b' p' a ht => by
          rw [hS.out]
          exact block_out (E := false) (by rw [← hS.out]; exact ZB.out) hE.out (by first | rfl | decide) ht
        clear hS hE jB
        have CB := rtake_any C true q [125] wr HNr.out.st
        obtain ⟨TB, LA⟩ : ∃ pl, placeT C.ts C.s.size q = pl := ⟨_, rfl⟩
        rw [LA] at CB
        have DB := hj LA
        clear LA
        go_wp2_with fail
        (with_reducible refine CB.mono ?_)
        clear CB
        rintro e MA ⟨EB, FB, WB, lA, rfl, mA, aA⟩
        have hM872' := lA.place
        rw [DB.out] at hM872'
        clear lA
        have HA : Hid (NSt C w MA EB FB [(AA.heap.size, .int .i64 0, .string ⟨#[]⟩, .slice va acc.length vc, .int .i64 BA), zB w.heap.size]) := hj (HNr.out.call mA aA)
        have bA : Hid (RowOwn MA (AA.heap.size + 1) (.slice va acc.length vc) acc) := hj (HROW.out.ow aA (Nat.lt_succ_of_le (Nat.le_of_lt (Nat.lt_of_lt_of_le HNr.out.pb (show w.heap.size ≤ AA.heap.size from (HNr.out.bx _ (List.Mem.head _)).1)))))
        clear HROW
        clear HNr aA mA
        have HM : Hid (Mt R EB FB (.mk 0 [] acc (BA : Int))) := hj (HRM.out _ _ _ (HLV.out _ _ _ hM872'))
        clear hM872' HLV
        have hcap := bA.out.cap
        obtain ⟨va', vc', hv', hrw⟩ := bA.out.rw (ads := [AA.heap.size, w.heap.size]) (fun a ha => by have := HLO.out; simp only [List.mem_cons, List.not_mem_nil, or_false] at ha; rcases ha with rfl | rfl <;> omega)
        simp only [Value.slice.injEq] at hv'
        obtain ⟨rfl, -, rfl⟩ := hv'
        have nA := hj hrw
        clear hrw bA
        obtain ⟨n0, n1, n2, n3, nf⟩ : BoxF MA (AA.heap.size) (.int .i64 0) (.string ⟨#[]⟩) (.slice va acc.length vc) (.int .i64 BA) := HA.out.at_ (List.Mem.head _)
        obtain ⟨r0, r1, r2, r3, rf⟩ : BoxF MA (w.heap.size) (.int .i64 0) (.string ⟨#[]⟩) (.slice none 0 0) (.int .i64 0) := HA.out.at_ (List.Mem.tail _ (List.Mem.head _))
        have oA : Hid (NSt C w (S4 MA w.heap.size (.int .i64 0) (.string ⟨#[]⟩) (.slice va acc.length vc) (.int .i64 BA)) EB FB [(AA.heap.size, .int .i64 0, .string ⟨#[]⟩, .slice va acc.length vc, .int .i64 BA), (w.heap.size, .int .i64 0, .string ⟨#[]⟩, .slice va acc.length vc, .int .i64 BA)]) := hj (NSt.set4 (pre := [(AA.heap.size, .int .i64 0, .string ⟨#[]⟩, .slice va acc.length vc, .int .i64 BA)]) HA.out)
        have pA : Hid (Rw (AA.heap.size + 1) (S4 MA w.heap.size (.int .i64 0) (.string ⟨#[]⟩) (.slice va acc.length vc) (.int .i64 BA)) [AA.heap.size, w.heap.size] acc va) := hj (nA.out.set4 (List.Mem.tail _ (List.Mem.head _)))
        have HW : Hid (w.heap.size ≤ (AA.heap.size + 1)) := hj (Nat.le_succ_of_le (show w.heap.size ≤ AA.heap.size from (HA.out.bx _ (List.Mem.head _)).1))
        have HF : Hid (RFinN C w (blockO C.ts C.s.size st f) b p (.returned (.agg #[.int .i64 0, .string ⟨#[]⟩, .slice va acc.length vc, .int .i64 BA])) (S4 MA w.heap.size (.int .i64 0) (.string ⟨#[]⟩) (.slice va acc.length vc) (.int .i64 BA))) := hj (NSt.fin (n := []) (l := acc) oA.out HW.out (by rw [HR.out]; exact HM.out) pA.out)
        clear HA oA HW HM pA nA
        go_wp2_with fail
        exact ret_node rfl rfl rfl (by simp [go_sem, r0]) (by simp [go_sem, r1]) (by simp [go_sem, r2]) (by simp [go_sem, r3]) HF.out
    · have HLV : Hid (∀ b' p' a, Mt (Tot (takeP C.ts C.s.size [125]) b9 q) b' p' a → Mt R1 b' p' acc) := hj fun b' p' a ht => by
        rw [hS.out]
        exact block_out (E := true) (by rw [← hS.out]; exact ZB.out) hE.out (by first | rfl | decide) ht
      clear hS hE jB
      have GB := rtake_any C b9 q [125] wr HNr.out.st
      obtain ⟨UB, NA⟩ : ∃ pl, placeT C.ts C.s.size q = pl := ⟨_, rfl⟩
      rw [NA] at GB
      have HB := hj NA
      clear NA
      go_wp2_with fail
      (with_reducible refine GB.mono ?_)
      clear GB
      rintro e OA ⟨IB, JB, XB, qA, rfl, rA, cA⟩
      have hM886' := qA.place
      rw [HB.out] at hM886'
      clear qA
      have IA : Hid (NSt C w OA IB JB [(AA.heap.size, .int .i64 0, .string ⟨#[]⟩, .slice va acc.length vc, .int .i64 BA), zB w.heap.size]) := hj (HNr.out.call rA cA)
      have dA : Hid (RowOwn OA (AA.heap.size + 1) (.slice va acc.length vc) acc) := hj (HROW.out.ow cA (Nat.lt_succ_of_le (Nat.le_of_lt (Nat.lt_of_lt_of_le HNr.out.pb (show w.heap.size ≤ AA.heap.size from (HNr.out.bx _ (List.Mem.head _)).1)))))
      clear HROW
      clear HNr cA rA
      have HM : Hid (Mt R IB JB (.mk 0 [] acc (BA : Int))) := hj (HRM.out _ _ _ (HLV.out _ _ _ hM886'))
      clear hM886' HLV
      have hcap := dA.out.cap
      obtain ⟨va', vc', hv', hrw⟩ := dA.out.rw (ads := [AA.heap.size, w.heap.size]) (fun a ha => by have := HLO.out; simp only [List.mem_cons, List.not_mem_nil, or_false] at ha; rcases ha with rfl | rfl <;> omega)
      simp only [Value.slice.injEq] at hv'
      obtain ⟨rfl, -, rfl⟩ := hv'
      have sA := hj hrw
      clear hrw dA
      obtain ⟨n0, n1, n2, n3, nf⟩ : BoxF OA (AA.heap.size) (.int .i64 0) (.string ⟨#[]⟩) (.slice va acc.length vc) (.int .i64 BA) := IA.out.at_ (List.Mem.head _)
      obtain ⟨r0, r1, r2, r3, rf⟩ : BoxF OA (w.heap.size) (.int .i64 0) (.string ⟨#[]⟩) (.slice none 0 0) (.int .i64 0) := IA.out.at_ (List.Mem.tail _ (List.Mem.head _))
      have tA : Hid (NSt C w (S4 OA w.heap.size (.int .i64 0) (.string ⟨#[]⟩) (.slice va acc.length vc) (.int .i64 BA)) IB JB [(AA.heap.size, .int .i64 0, .string ⟨#[]⟩, .slice va acc.length vc, .int .i64 BA), (w.heap.size, .int .i64 0, .string ⟨#[]⟩, .slice va acc.length vc, .int .i64 BA)]) := hj (NSt.set4 (pre := [(AA.heap.size, .int .i64 0, .string ⟨#[]⟩, .slice va acc.length vc, .int .i64 BA)]) IA.out)
      have vA : Hid (Rw (AA.heap.size + 1) (S4 OA w.heap.size (.int .i64 0) (.string ⟨#[]⟩) (.slice va acc.length vc) (.int .i64 BA)) [AA.heap.size, w.heap.size] acc va) := hj (sA.out.set4 (List.Mem.tail _ (List.Mem.head _)))
      have HW : Hid (w.heap.size ≤ (AA.heap.size + 1)) := hj (Nat.le_succ_of_le (show w.heap.size ≤ AA.heap.size from (IA.out.bx _ (List.Mem.head _)).1))
      have HF : Hid (RFinN C w (blockO C.ts C.s.size st f) b p (.returned (.agg #[.int .i64 0, .string ⟨#[]⟩, .slice va acc.length vc, .int .i64 BA])) (S4 OA w.heap.size (.int .i64 0) (.string ⟨#[]⟩) (.slice va acc.length vc) (.int .i64 BA))) := hj (NSt.fin (n := []) (l := acc) tA.out HW.out (by rw [HR.out]; exact HM.out) vA.out)
      clear IA tA HW HM vA sA
      go_wp2_with fail
      exact ret_node rfl rfl rfl (by simp [go_sem, r0]) (by simp [go_sem, r1]) (by simp [go_sem, r2]) (by simp [go_sem, r3]) HF.out
theorem stmt_def {C : Ctx} {ex st : Nat → Res Nd} {f : Nat} {b : Bool} {p : Nat} (h1 : (!b && isT C.ts p wModule) = false) (h2 : (!b && isT C.ts p wFunction) = false) (h3 : (!b && isT C.ts p wFor) = false) (h4 : (!b && isT C.ts p wIf) = false) :
    Tot (stmtO C.ts C.s.size ex st f) b p = (Tot (nameP C.ts) b p).bind fun s q => if isT C.ts q [61] then (ex (q + 1)).bind fun x r => (takeP C.ts C.s.size [59] r).bind fun _ e => .ok (.mk 1 s [x] (placeT C.ts C.s.size p)) e else (argsO C.ts C.s.size ex f q).bind fun x r => if isT C.ts r [123] then (blockO C.ts C.s.size st f r).bind fun y e => .ok (.mk 7 s [x, y] (placeT C.ts C.s.size p)) e else (takeP C.ts C.s.size [59] r).bind fun _ e => .ok (.mk 7 s [x] (placeT C.ts C.s.size p)) e := by
  cases b
  · simp only [Bool.not_false, Bool.true_and] at h1 h2 h3 h4
    rw [tot_go, tot_go, stmtO, h1, h2, h3, h4]
    rfl
  · rfl
set_option maxHeartbeats 4000000 in
set_option maxRecDepth 100000 in
theorem rstmt_any (C : Ctx) (ex st : Nat → Res Nd) (hx : ROneQ C 87 ex) (hb : ROneQ C 45 st) (f : Nat) (hf : f ≤ 8192) (hex : ∃ q, ex q ≠ .out) : ROne C 45 (stmtO C.ts C.s.size ex st f) := by
  intro w b p h hne
  obtain ⟨R, hR⟩ : ∃ R, Tot (stmtO C.ts C.s.size ex st f) b p = R := ⟨_, rfl⟩
  have HT : Hid (R = Tot (stmtO C.ts C.s.size ex st f) b p) := hj hR.symm
  rw [hR] at hne
  have HR := hj hR
  have HNE := hj hne
  have HHX := hj hx
  have eF : Hid (NSt C w w b p []) := NSt.start h
  clear hR hne h hx
  have HHB := hj hb
  have HEX := hj hex
  clear hb hex
  obtain ⟨i0, LM, MM, NM, OM⟩ := info_parts Tryz.infoNode
  go_enter Tryz.func45, Tryz.ntmps45
  go_upto_region 1 with (fail)
  have bC : Hid (NSt C w (World.alloc w (.cells #[.int .i64 0, .string ⟨#[]⟩, .slice none 0 0, .int .i64 0] 53)) b p [zB w.heap.size]) := hj (eF.out.alloc _ _ _ _)
  clear eF
  generalize World.alloc w (.cells #[.int .i64 0, .string ⟨#[]⟩, .slice none 0 0, .int .i64 0] 53) = rJ at bC ⊢
  have hI := rplace_any C b p rJ bC.out.st
  obtain ⟨BA, mC⟩ : ∃ pl, placeT C.ts C.s.size p = pl := ⟨_, rfl⟩
  rw [mC] at hI
  have BC := hj mC
  clear mC
  go_wp2_with fail
  (with_reducible refine hI.mono ?_)
  clear hI
  rintro e AA ⟨rfl, fD⟩
  have gD := bC.out.st.below fD
  have hD : Ow C.pb rJ AA := Ow.of_below fD
  clear fD
  have GD : Hid (NSt C w AA b p [zB w.heap.size]) := hj (bC.out.call gD hD)
  clear bC hD gD
  have EM : Hid (w.heap.size < AA.heap.size ∧ C.pb < w.heap.size) := hj ⟨GD.out.lt _ (List.Mem.head _), GD.out.pb⟩
  go_upto_region 2 with (fail)
  have cC : Hid (NSt C w (World.alloc AA (.cells #[.int .i64 0, .string ⟨#[]⟩, .slice none 0 0, .int .i64 BA] 53)) b p [(AA.heap.size, .int .i64 0, .string ⟨#[]⟩, .slice none 0 0, .int .i64 BA), zB w.heap.size]) := hj (GD.out.alloc _ _ _ _)
  clear GD
  generalize World.alloc AA (.cells #[.int .i64 0, .string ⟨#[]⟩, .slice none 0 0, .int .i64 BA] 53) = sJ at cC ⊢
  have HLO : Hid (w.heap.size < AA.heap.size ∧ w.heap.size ≤ w.heap.size ∧ C.pb < w.heap.size) := hj ⟨EM.out.1, Nat.le_refl _, EM.out.2⟩
  have iI := ris_any C b p [109, 111, 100, 117, 108, 101] sJ cC.out.st
  obtain ⟨yK, iD⟩ : ∃ E, (!b && isT C.ts p [109, 111, 100, 117, 108, 101]) = E := ⟨_, rfl⟩
  rw [iD] at iI
  have dC := hj iD
  clear iD
  go_wp2_with fail
  (with_reducible refine iI.mono ?_)
  clear iI
  rintro e NF ⟨rfl, jD⟩
  have kD := cC.out.st.below jD
  have lD : Ow C.pb sJ NF := Ow.of_below jD
  clear jD
  have HD : Hid (NSt C w NF b p [(AA.heap.size, .int .i64 0, .string ⟨#[]⟩, .slice none 0 0, .int .i64 BA), zB w.heap.size]) := hj (cC.out.call kD lD)
  clear cC lD kD
  have jI := ris_any C b p [102, 117, 110, 99, 116, 105, 111, 110] NF HD.out.st
  obtain ⟨zK, mD⟩ : ∃ E, (!b && isT C.ts p [102, 117, 110, 99, 116, 105, 111, 110]) = E := ⟨_, rfl⟩
  rw [mD] at jI
  have ID := hj mD
  clear mD
  go_wp2_with fail
  (with_reducible refine jI.mono ?_)
  clear jI
  rintro e OF ⟨rfl, nD⟩
  have oD := HD.out.st.below nD
  have pD : Ow C.pb NF OF := Ow.of_below nD
  clear nD
  have JD : Hid (NSt C w OF b p [(AA.heap.size, .int .i64 0, .string ⟨#[]⟩, .slice none 0 0, .int .i64 BA), zB w.heap.size]) := hj (HD.out.call oD pD)
  clear HD pD oD
  have kI := ris_any C b p [102, 111, 114] OF JD.out.st
  obtain ⟨AL, qD⟩ : ∃ E, (!b && isT C.ts p [102, 111, 114]) = E := ⟨_, rfl⟩
  rw [qD] at kI
  have rD := hj qD
  clear qD
  go_wp2_with fail
  (with_reducible refine kI.mono ?_)
  clear kI
  rintro e PF ⟨rfl, sD⟩
  have tD := JD.out.st.below sD
  have vD : Ow C.pb OF PF := Ow.of_below sD
  clear sD
  have KD : Hid (NSt C w PF b p [(AA.heap.size, .int .i64 0, .string ⟨#[]⟩, .slice none 0 0, .int .i64 BA), zB w.heap.size]) := hj (JD.out.call tD vD)
  clear JD vD tD
  have lI := ris_any C b p [105, 102] PF KD.out.st
  obtain ⟨BL, wD⟩ : ∃ E, (!b && isT C.ts p [105, 102]) = E := ⟨_, rfl⟩
  rw [wD] at lI
  have fF := hj wD
  clear wD
  go_wp2_with fail
  (with_reducible refine lI.mono ?_)
  clear lI
  rintro e YB ⟨rfl, xD⟩
  have yD := KD.out.st.below xD
  have zD : Ow C.pb PF YB := Ow.of_below xD
  clear xD
  have VA : Hid (NSt C w YB b p [(AA.heap.size, .int .i64 0, .string ⟨#[]⟩, .slice none 0 0, .int .i64 BA), zB w.heap.size]) := hj (KD.out.call yD zD)
  clear KD zD yD
  cases yK
  · cases zK
    · cases AL
      · cases BL
        · have AM : Hid (R = (Tot (nameP C.ts) b p).bind fun s q => if isT C.ts q [61] then (ex (q + 1)).bind fun x r => (takeP C.ts C.s.size [59] r).bind fun _ e => .ok (.mk 1 s [x] (BA : Int)) e else (argsO C.ts C.s.size ex f q).bind fun x r => if isT C.ts r [123] then (blockO C.ts C.s.size st f r).bind fun y e => .ok (.mk 7 s [x, y] (BA : Int)) e else (takeP C.ts C.s.size [59] r).bind fun _ e => .ok (.mk 7 s [x] (BA : Int)) e) := by
            show R = _
            rw [HT.out, stmt_def dC.out ID.out rD.out fF.out, BC.out]
          clear HT
          have tJ := rnameq_any C b p YB VA.out.st
          go_wp2_with fail
          (with_reducible refine tJ.mono ?_)
          clear tJ
          rintro e QF ⟨JC, ZB, CA, gF, rfl, hF, iF⟩
          have AE : Hid (NSt C w QF JC ZB [(AA.heap.size, .int .i64 0, .string ⟨#[]⟩, .slice none 0 0, .int .i64 BA), zB w.heap.size]) := hj (VA.out.call hF iF)
          clear VA iF hF
          have yL : Hid (R = Tot (fun q => if isT C.ts q [61] then (ex (q + 1)).bind fun x r => (takeP C.ts C.s.size [59] r).bind fun _ e => .ok (.mk 1 CA [x] (BA : Int)) e else (argsO C.ts C.s.size ex f q).bind fun x r => if isT C.ts r [123] then (blockO C.ts C.s.size st f r).bind fun y e => .ok (.mk 7 CA [x, y] (BA : Int)) e else (takeP C.ts C.s.size [59] r).bind fun _ e => .ok (.mk 7 CA [x] (BA : Int)) e) JC ZB) := by
            show R = _
            rw [AM.out, gF.bind]
          clear gF AM
          obtain ⟨n0, n1, n2, n3, nf⟩ : BoxF QF (AA.heap.size) (.int .i64 0) (.string ⟨#[]⟩) (.slice none 0 0) (.int .i64 BA) := AE.out.at_ (List.Mem.head _)
          go_upto_region 7 with (fail)
          clear n0 n1 n2 n3 nf
          have eC : Hid (NSt C w (World.setCell QF ⟨AA.heap.size, 1, none⟩ (.string ⟨CA.toArray⟩)) JC ZB [(AA.heap.size, .int .i64 0, .string ⟨CA.toArray⟩, .slice none 0 0, .int .i64 BA), zB w.heap.size]) := hj (NSt.set1 (pre := []) AE.out)
          clear AE
          generalize World.setCell QF ⟨AA.heap.size, 1, none⟩ (.string ⟨CA.toArray⟩) = vJ at eC ⊢
          have mI := ris_any C JC ZB [61] vJ eC.out.st
          obtain ⟨CL, BE⟩ : ∃ E, (!JC && isT C.ts ZB [61]) = E := ⟨_, rfl⟩
          rw [BE] at mI
          have jF := hj BE
          clear BE
          go_wp2_with fail
          (with_reducible refine mI.mono ?_)
          clear mI
          rintro e aC ⟨rfl, CE⟩
          have DE := eC.out.st.below CE
          have EE : Ow C.pb vJ aC := Ow.of_below CE
          clear CE
          have vB : Hid (NSt C w aC JC ZB [(AA.heap.size, .int .i64 0, .string ⟨CA.toArray⟩, .slice none 0 0, .int .i64 BA), zB w.heap.size]) := hj (eC.out.call DE EE)
          clear eC EE DE
          cases CL
          · have wL : Hid (R = (Tot (argsO C.ts C.s.size ex f) JC ZB).bind fun x r => if isT C.ts r [123] then (blockO C.ts C.s.size st f r).bind fun y e => .ok (.mk 7 CA [x, y] (BA : Int)) e else (takeP C.ts C.s.size [59] r).bind fun _ e => .ok (.mk 7 CA [x] (BA : Int)) e) := by
              show R = _
              rw [yL.out, tot_if_f jF.out, tot_bind]
            clear yL
            obtain ⟨n0, n1, n2, n3, nf⟩ : BoxF aC (AA.heap.size) (.int .i64 0) (.string ⟨CA.toArray⟩) (.slice none 0 0) (.int .i64 BA) := vB.out.at_ (List.Mem.head _)
            go_upto_region 16 with (fail)
            clear n0 n1 n2 n3 nf
            have KC : Hid (NSt C w (World.setCell aC ⟨AA.heap.size, 0, none⟩ (.int .i64 7)) JC ZB [(AA.heap.size, .int .i64 7, .string ⟨CA.toArray⟩, .slice none 0 0, .int .i64 BA), zB w.heap.size]) := hj (NSt.set0 (pre := []) vB.out)
            clear vB
            generalize World.setCell aC ⟨AA.heap.size, 0, none⟩ (.int .i64 7) = bL at KC ⊢
            have nI := rargs_any C ex HHX.out f hf _ _ _ KC.out.st (fun e => HNE.out (by rw [wL.out, e]; rfl))
            unfold RFinN at nI
            go_wp2_with fail
            (with_reducible refine nI.mono ?_)
            clear nI
            rintro e sB ⟨AC, tB, RA, SA, OA, EA, iB, DB, kF, rfl, lF, mF, nF⟩
            have oF : Hid (NSt C w sB AC tB [(AA.heap.size, .int .i64 7, .string ⟨CA.toArray⟩, .slice none 0 0, .int .i64 BA), zB w.heap.size]) := hj (KC.out.call mF nF)
            have pF : Hid (Rw (AA.heap.size + 1) sB [AA.heap.size, w.heap.size] OA iB) := hj (KC.out.row (KC.out.lt _ (List.Mem.head _)) lF)
            clear KC nF mF lF
            have pL : Hid (R = Tot (fun r => if isT C.ts r [123] then (blockO C.ts C.s.size st f r).bind fun y e => .ok (.mk 7 CA [(.mk RA SA OA EA), y] (BA : Int)) e else (takeP C.ts C.s.size [59] r).bind fun _ e => .ok (.mk 7 CA [(.mk RA SA OA EA)] (BA : Int)) e) AC tB) := by
              show R = _
              rw [wL.out, kF.bind]
            clear kF wL
            go_upto_region 17 with (fail)
            have mB : Hid (NSt C w (World.alloc sB (.cells #[.int .i64 RA, .string ⟨SA.toArray⟩, .slice iB OA.length DB, .int .i64 EA] 53)) AC tB [nB sB.heap.size RA SA iB OA DB EA, (AA.heap.size, .int .i64 7, .string ⟨CA.toArray⟩, .slice none 0 0, .int .i64 BA), zB w.heap.size]) := hj (oF.out.alloc _ _ _ _)
            have LD : Hid (Rw (AA.heap.size + 1) (World.alloc sB (.cells #[.int .i64 RA, .string ⟨SA.toArray⟩, .slice iB OA.length DB, .int .i64 EA] 53)) [sB.heap.size, AA.heap.size, w.heap.size] OA iB) := hj (pF.out.alloc _)
            clear oF pF
            generalize World.alloc sB (.cells #[.int .i64 RA, .string ⟨SA.toArray⟩, .slice iB OA.length DB, .int .i64 EA] 53) = LA at mB LD ⊢
            obtain ⟨u00, u01, u02, u03, u0f⟩ : BoxF LA (sB.heap.size) (.int .i64 RA) (.string ⟨SA.toArray⟩) (.slice iB OA.length DB) (.int .i64 EA) := mB.out.at_ (List.Mem.head _)
            obtain ⟨n0, n1, n2, n3, nf⟩ : BoxF LA (AA.heap.size) (.int .i64 7) (.string ⟨CA.toArray⟩) (.slice none 0 0) (.int .i64 BA) := mB.out.at_ (List.Mem.tail _ (List.Mem.head _))
            have qL := fun o => al_cell n0 o
            have rL := fun o => al_cell n1 o
            have sL := fun o => al_cell n2 o
            have tL := fun o => al_cell n3 o
            have naf : ∀ ob o, (World.alloc LA ob).frozen? ⟨AA.heap.size, o, none⟩ = false := fun ob o => ((mB.out.bx _ (List.Mem.tail _ (List.Mem.head _))).2.alloc ob).facts.2.2.2.2 o
            go_upto_region 18 with (fail)
            clear n0 n1 n2 n3 nf u00 u01 u02 u03 u0f
            clear qL rL sL tL naf
            have qF : Hid (Rw (AA.heap.size + 1) (World.alloc LA (.cells #[.int .i64 RA, .string ⟨SA.toArray⟩, .slice iB OA.length DB, .int .i64 EA] 53)) [sB.heap.size, AA.heap.size, w.heap.size] [(.mk RA SA OA EA)] (some ⟨LA.heap.size, 0, none⟩)) := hj (Rw.one mB.out (mB.out.lt _ (List.Mem.tail _ (List.Mem.head _))) LD.out)
            have rF : Hid (NSt C w (World.alloc LA (.cells #[.int .i64 RA, .string ⟨SA.toArray⟩, .slice iB OA.length DB, .int .i64 EA] 53)) AC tB [nB sB.heap.size RA SA iB OA DB EA, (AA.heap.size, .int .i64 7, .string ⟨CA.toArray⟩, .slice none 0 0, .int .i64 BA), zB w.heap.size]) := hj (mB.out.blk _)
            have sF : Hid (RowOwn (World.alloc LA (.cells #[.int .i64 RA, .string ⟨SA.toArray⟩, .slice iB OA.length DB, .int .i64 EA] 53)) (AA.heap.size + 1) (.slice (some ⟨LA.heap.size, 0, none⟩) 1 1) [(.mk RA SA OA EA)]) := hj (RowOwn.one (mB.out.lt _ (List.Mem.tail _ (List.Mem.head _))) LD.out.raw)
            clear mB LD
            have FE : Hid (NSt C w (World.setCell (World.alloc LA (.cells #[.int .i64 RA, .string ⟨SA.toArray⟩, .slice iB OA.length DB, .int .i64 EA] 53)) ⟨AA.heap.size, 2, none⟩ (.slice (some ⟨LA.heap.size, 0, none⟩) 1 1)) AC tB [nB sB.heap.size RA SA iB OA DB EA, (AA.heap.size, .int .i64 7, .string ⟨CA.toArray⟩, .slice (some ⟨LA.heap.size, 0, none⟩) 1 1, .int .i64 BA), zB w.heap.size]) := hj (NSt.set2 (pre := [nB sB.heap.size RA SA iB OA DB EA]) rF.out)
            have tF : Hid (Rw (AA.heap.size + 1) (World.setCell (World.alloc LA (.cells #[.int .i64 RA, .string ⟨SA.toArray⟩, .slice iB OA.length DB, .int .i64 EA] 53)) ⟨AA.heap.size, 2, none⟩ (.slice (some ⟨LA.heap.size, 0, none⟩) 1 1)) [sB.heap.size, AA.heap.size, w.heap.size] [(.mk RA SA OA EA)] (some ⟨LA.heap.size, 0, none⟩)) := hj (qF.out.set (List.Mem.tail _ (List.Mem.head _)))
            have GE : Hid (RowOwn (World.setCell (World.alloc LA (.cells #[.int .i64 RA, .string ⟨SA.toArray⟩, .slice iB OA.length DB, .int .i64 EA] 53)) ⟨AA.heap.size, 2, none⟩ (.slice (some ⟨LA.heap.size, 0, none⟩) 1 1)) (AA.heap.size + 1) (.slice (some ⟨LA.heap.size, 0, none⟩) 1 1) [(.mk RA SA OA EA)]) := hj (sF.out.set (Nat.lt_succ_self _))
            clear rF qF sF
            generalize World.setCell (World.alloc LA (.cells #[.int .i64 RA, .string ⟨SA.toArray⟩, .slice iB OA.length DB, .int .i64 EA] 53)) ⟨AA.heap.size, 2, none⟩ (.slice (some ⟨LA.heap.size, 0, none⟩) 1 1) = oI at FE tF GE ⊢
            have LC : Hid (NSt C w oI AC tB [(AA.heap.size, .int .i64 7, .string ⟨CA.toArray⟩, .slice (some ⟨LA.heap.size, 0, none⟩) 1 1, .int .i64 BA), zB w.heap.size]) := hj (FE.out.sub (List.Sublist.cons _ (List.Sublist.refl _)))
            clear FE
            clear tF
            have pI := ris_any C AC tB [123] oI LC.out.st
            obtain ⟨DL, HE⟩ : ∃ E, (!AC && isT C.ts tB [123]) = E := ⟨_, rfl⟩
            rw [HE] at pI
            have vF := hj HE
            clear HE
            go_wp2_with fail
            (with_reducible refine pI.mono ?_)
            clear pI
            rintro e fC ⟨rfl, IE⟩
            have JE := LC.out.st.below IE
            have nC : Ow C.pb oI fC := Ow.of_below IE
            clear IE
            have jB : Hid (NSt C w fC AC tB [(AA.heap.size, .int .i64 7, .string ⟨CA.toArray⟩, .slice (some ⟨LA.heap.size, 0, none⟩) 1 1, .int .i64 BA), zB w.heap.size]) := hj (LC.out.call JE nC)
            have gC : Hid (RowOwn fC (AA.heap.size + 1) (.slice (some ⟨LA.heap.size, 0, none⟩) 1 1) [(.mk RA SA OA EA)]) := hj (GE.out.ow nC (Nat.lt_succ_of_le (Nat.le_of_lt (Nat.lt_of_lt_of_le LC.out.pb (show w.heap.size ≤ AA.heap.size from (LC.out.bx _ (List.Mem.head _)).1)))))
            clear GE
            clear LC nC JE
            cases DL
            · have KE : Hid (Rw (AA.heap.size + 1) fC [AA.heap.size, w.heap.size] [(.mk RA SA OA EA)] (some ⟨LA.heap.size, 0, none⟩)) := hj (Rw.of_own (n := 0) gC.out (fun a ha => by have := HLO.out; simp only [List.mem_cons, List.not_mem_nil, or_false] at ha; rcases ha with rfl | rfl <;> omega)).1
              clear gC
              have vL : Hid (R = (Tot (takeP C.ts C.s.size [59]) AC tB).bind fun _ e => .ok (.mk 7 CA [(.mk RA SA OA EA)] (BA : Int)) e) := by
                show R = _
                rw [pL.out, tot_if_f vF.out, tot_bind]
              clear pL
              have qI := rtake_any C AC tB [59] fC jB.out.st
              obtain ⟨RL, oC⟩ : ∃ pl, placeT C.ts C.s.size tB = pl := ⟨_, rfl⟩
              rw [oC] at qI
              have rI := hj oC
              clear oC
              go_wp2_with fail
              (with_reducible refine qI.mono ?_)
              clear qI
              rintro e pC ⟨sI, tI, cL, wF, rfl, xF, LE⟩
              have hM333' := wF.place
              rw [rI.out] at hM333'
              clear wF
              have hC : Hid (NSt C w pC sI tI [(AA.heap.size, .int .i64 7, .string ⟨CA.toArray⟩, .slice (some ⟨LA.heap.size, 0, none⟩) 1 1, .int .i64 BA), zB w.heap.size]) := hj (jB.out.call xF LE)
              have yF : Hid (Rw (AA.heap.size + 1) pC [AA.heap.size, w.heap.size] [(.mk RA SA OA EA)] (some ⟨LA.heap.size, 0, none⟩)) := hj (KE.out.call (Nat.lt_succ_of_le (Nat.le_of_lt (Nat.lt_of_lt_of_le jB.out.pb (show w.heap.size ≤ AA.heap.size from (jB.out.bx _ (List.Mem.head _)).1)))) LE)
              clear jB KE LE xF
              have HM : Hid (Mt R sI tI (.mk 7 CA [(.mk RA SA OA EA)] (BA : Int))) := by
                show Mt _ _ _ _
                rw [vL.out, hM333'.bind]
                exact Mt.ret _ _ _
              clear hM333' vL
              obtain ⟨n0, n1, n2, n3, nf⟩ : BoxF pC (AA.heap.size) (.int .i64 7) (.string ⟨CA.toArray⟩) (.slice (some ⟨LA.heap.size, 0, none⟩) 1 1) (.int .i64 BA) := hC.out.at_ (List.Mem.head _)
              obtain ⟨r0, r1, r2, r3, rf⟩ : BoxF pC (w.heap.size) (.int .i64 0) (.string ⟨#[]⟩) (.slice none 0 0) (.int .i64 0) := hC.out.at_ (List.Mem.tail _ (List.Mem.head _))
              have zF : Hid (NSt C w (S4 pC w.heap.size (.int .i64 7) (.string ⟨CA.toArray⟩) (.slice (some ⟨LA.heap.size, 0, none⟩) 1 1) (.int .i64 BA)) sI tI [(AA.heap.size, .int .i64 7, .string ⟨CA.toArray⟩, .slice (some ⟨LA.heap.size, 0, none⟩) 1 1, .int .i64 BA), (w.heap.size, .int .i64 7, .string ⟨CA.toArray⟩, .slice (some ⟨LA.heap.size, 0, none⟩) 1 1, .int .i64 BA)]) := hj (NSt.set4 (pre := [(AA.heap.size, .int .i64 7, .string ⟨CA.toArray⟩, .slice (some ⟨LA.heap.size, 0, none⟩) 1 1, .int .i64 BA)]) hC.out)
              have AG : Hid (Rw (AA.heap.size + 1) (S4 pC w.heap.size (.int .i64 7) (.string ⟨CA.toArray⟩) (.slice (some ⟨LA.heap.size, 0, none⟩) 1 1) (.int .i64 BA)) [AA.heap.size, w.heap.size] [(.mk RA SA OA EA)] (some ⟨LA.heap.size, 0, none⟩)) := hj (yF.out.set4 (List.Mem.tail _ (List.Mem.head _)))
              have HW : Hid (w.heap.size ≤ (AA.heap.size + 1)) := hj (Nat.le_succ_of_le (show w.heap.size ≤ AA.heap.size from (hC.out.bx _ (List.Mem.head _)).1))
              have HF : Hid (RFinN C w (stmtO C.ts C.s.size ex st f) b p (.returned (.agg #[.int .i64 7, .string ⟨CA.toArray⟩, .slice (some ⟨LA.heap.size, 0, none⟩) 1 1, .int .i64 BA])) (S4 pC w.heap.size (.int .i64 7) (.string ⟨CA.toArray⟩) (.slice (some ⟨LA.heap.size, 0, none⟩) 1 1) (.int .i64 BA))) := hj (NSt.fin (n := CA) (l := [(.mk RA SA OA EA)]) zF.out HW.out (by rw [HR.out]; exact HM.out) AG.out)
              clear hC zF HW HM AG yF
              go_wp2_with fail
              exact ret_node rfl rfl rfl (by simp [go_sem, r0]) (by simp [go_sem, r1]) (by simp [go_sem, r2]) (by simp [go_sem, r3]) HF.out
            · have vL : Hid (R = (Tot (blockO C.ts C.s.size st f) AC tB).bind fun y e => .ok (.mk 7 CA [(.mk RA SA OA EA), y] (BA : Int)) e) := by
                show R = _
                rw [pL.out, tot_if_t vF.out, tot_bind]
              clear pL
              have wJ : Hid (∀ j, (Value.slice (some ⟨LA.heap.size, 0, none⟩) 1 1).ownBlock = some j → j < fC.heap.size) := by
                obtain ⟨TM, h1, _⟩ := gC.out
                exact fun j hj => (h1.lt j hj).2
              have hszr : AA.heap.size + 1 ≤ fC.heap.size := jB.out.lt _ (List.Mem.head _)
              have vI := rblock_any C st HHB.out f hf _ _ _ jB.out.st (fun e => HNE.out (by rw [vL.out, e]; rfl))
              unfold RFinN at vI
              go_wp2_with fail
              (with_reducible refine vI.mono ?_)
              clear vI
              rintro e iC ⟨RF, SF, qC, rC, sC, CC, xJ, BG, CG, rfl, DG, EG, ME⟩
              have NE := hj CG
              have wI := hj DG
              clear CG DG
              have MC : Hid (NSt C w iC RF SF [(AA.heap.size, .int .i64 7, .string ⟨CA.toArray⟩, .slice (some ⟨LA.heap.size, 0, none⟩) 1 1, .int .i64 BA), zB w.heap.size]) := hj (jB.out.call EG ME)
              have FG : Hid (RowOwn iC (AA.heap.size + 1) (.slice (some ⟨LA.heap.size, 0, none⟩) 1 1) [(.mk RA SA OA EA)]) := hj (gC.out.ow ME (Nat.lt_succ_of_le (Nat.le_of_lt (Nat.lt_of_lt_of_le jB.out.pb (show w.heap.size ≤ AA.heap.size from (jB.out.bx _ (List.Mem.head _)).1)))))
              clear gC
              clear jB ME EG
              obtain ⟨n0, n1, n2, n3, nf⟩ : BoxF iC (AA.heap.size) (.int .i64 7) (.string ⟨CA.toArray⟩) (.slice (some ⟨LA.heap.size, 0, none⟩) 1 1) (.int .i64 BA) := MC.out.at_ (List.Mem.head _)
              have qL := fun o => al_cell n0 o
              have rL := fun o => al_cell n1 o
              have sL := fun o => al_cell n2 o
              have tL := fun o => al_cell n3 o
              have naf : ∀ ob o, (World.alloc iC ob).frozen? ⟨AA.heap.size, o, none⟩ = false := fun ob o => ((MC.out.bx _ (List.Mem.head _)).2.alloc ob).facts.2.2.2.2 o
              have BM : AA.heap.size + 1 ≤ iC.heap.size := MC.out.lt _ (List.Mem.head _)
              have hlo : ∀ x ∈ ([(AA.heap.size, .int .i64 7, .string ⟨CA.toArray⟩, .slice (some ⟨LA.heap.size, 0, none⟩) 1 1, .int .i64 BA), zB w.heap.size] : List Bx), x.1 < (AA.heap.size + 1) := fun x hx => by have := HLO.out; simp only [List.mem_cons, List.not_mem_nil, or_false] at hx; rcases hx with rfl | rfl <;> (try dsimp only [zB]) <;> omega
              have HLOW := hj hlo
              clear hlo
              have HWB : Hid (w.heap.size ≤ (AA.heap.size + 1)) := hj (Nat.le_succ_of_le (show w.heap.size ≤ AA.heap.size from (MC.out.bx _ (List.Mem.head _)).1))
              go_wp2_with (at_builtin; refine Hold.out ?_)
              refine Hold.put ?_
              obtain ⟨xs, hown, hfl⟩ := FG.out
              have hlt := fun j hj => hown.lt j hj
              refine wpList_append_fresh _ rfl (.tmp 68) (.tmp 70) 22 rfl (AA.heap.size + 1) 53 i0 (.agg #[.int .i64 0, .string ⟨#[]⟩, .slice none 0 0, .int .i64 0]) 4 56 Tryz.underlying22 LM MM NM OM rfl (by decide) _ 1 _ rfl ((hown.alloc _).alloc _) ⟨iC.heap.size + 1, 0, none⟩ 1 1 [.int .i64 qC, .string ⟨rC.toArray⟩, .slice xJ sC.length BG, .int .i64 CC] rfl rfl (by rw [show (iC.heap.size + 1) = (iC.alloc (.cells #[.int .i64 qC, .string ⟨rC.toArray⟩, .slice xJ sC.length BG, .int .i64 CC] 53)).heap.size by simp]; exact cell_four_new _ _ _ _ _ _) (fun x hx => by simp at hx; rcases hx with rfl | rfl | rfl | rfl <;> rfl) (by unfold maxLen; omega) (by omega) (by simp; omega) ?_
              intro v' w6 hown' hgrow hfresh
              obtain ⟨va', vc', hv', CM, FM⟩ := NSt.app (S := fC.heap.size) (acc := [(.mk RA SA OA EA)]) MC.out HLOW.out HWB.out (((Below.refl _ _).alloc (Nat.le_refl _) _).alloc (by simp) _) hown hfl wI.out wJ.out (by omega) hown' hgrow hfresh
              obtain rfl : v' = .slice va' 2 vc' := hv'
              obtain ⟨z0, z1, z2, z3, zf⟩ : BoxF w6 AA.heap.size (.int .i64 7) (.string ⟨CA.toArray⟩) (.slice (some ⟨LA.heap.size, 0, none⟩) 1 1) (.int .i64 BA) := CM.at_ (List.Mem.head _)
              have GM := hj CM
              have IM := hj FM
              clear CM FM hown hfl hlt hown' hgrow hfresh hszr BM
              clear FG MC
              clear n0 n1 n2 n3 nf
              clear qL rL sL tL naf
              go_upto_region 22 with (fail)
              have zL : Hid (RowOwn (World.setCell w6 ⟨AA.heap.size, 2, none⟩ (.slice va' 2 vc')) (AA.heap.size + 1) (.slice va' 2 vc') ([(.mk RA SA OA EA)] ++ [(Nd.mk qC rC sC CC)])) := hj (IM.out.set (Nat.lt_succ_self _))
              clear IM z0 z1 z2 z3 zf
              have xL : Hid (NSt C w (World.setCell w6 ⟨AA.heap.size, 2, none⟩ (.slice va' 2 vc')) RF SF [(AA.heap.size, .int .i64 7, .string ⟨CA.toArray⟩, .slice va' 2 vc', .int .i64 BA), zB w.heap.size]) := hj (NSt.set2 (pre := []) GM.out)
              clear GM
              generalize World.setCell w6 ⟨AA.heap.size, 2, none⟩ (.slice va' 2 vc') = w7 at xL zL ⊢
              have hcap := zL.out.cap
              have GG : Hid (Rw (AA.heap.size + 1) w7 [AA.heap.size, w.heap.size] ([(.mk RA SA OA EA)] ++ [(Nd.mk qC rC sC CC)]) va') := hj (Rw.of_own (n := 0) zL.out (fun a ha => by have := HLO.out; simp only [List.mem_cons, List.not_mem_nil, or_false] at ha; rcases ha with rfl | rfl <;> omega)).1
              clear zL
              have HM : Hid (Mt R RF SF (.mk 7 CA [(.mk RA SA OA EA), (Nd.mk qC rC sC CC)] (BA : Int))) := by
                show Mt _ _ _ _
                rw [vL.out, NE.out.bind]
                exact Mt.ret _ _ _
              clear NE vL
              obtain ⟨n0, n1, n2, n3, nf⟩ : BoxF w7 (AA.heap.size) (.int .i64 7) (.string ⟨CA.toArray⟩) (.slice va' 2 vc') (.int .i64 BA) := xL.out.at_ (List.Mem.head _)
              obtain ⟨r0, r1, r2, r3, rf⟩ : BoxF w7 (w.heap.size) (.int .i64 0) (.string ⟨#[]⟩) (.slice none 0 0) (.int .i64 0) := xL.out.at_ (List.Mem.tail _ (List.Mem.head _))
              have HG : Hid (NSt C w (S4 w7 w.heap.size (.int .i64 7) (.string ⟨CA.toArray⟩) (.slice va' 2 vc') (.int .i64 BA)) RF SF [(AA.heap.size, .int .i64 7, .string ⟨CA.toArray⟩, .slice va' 2 vc', .int .i64 BA), (w.heap.size, .int .i64 7, .string ⟨CA.toArray⟩, .slice va' 2 vc', .int .i64 BA)]) := hj (NSt.set4 (pre := [(AA.heap.size, .int .i64 7, .string ⟨CA.toArray⟩, .slice va' 2 vc', .int .i64 BA)]) xL.out)
              have IG : Hid (Rw (AA.heap.size + 1) (S4 w7 w.heap.size (.int .i64 7) (.string ⟨CA.toArray⟩) (.slice va' 2 vc') (.int .i64 BA)) [AA.heap.size, w.heap.size] ([(.mk RA SA OA EA)] ++ [(Nd.mk qC rC sC CC)]) va') := hj (GG.out.set4 (List.Mem.tail _ (List.Mem.head _)))
              have HW : Hid (w.heap.size ≤ (AA.heap.size + 1)) := hj (Nat.le_succ_of_le (show w.heap.size ≤ AA.heap.size from (xL.out.bx _ (List.Mem.head _)).1))
              have HF : Hid (RFinN C w (stmtO C.ts C.s.size ex st f) b p (.returned (.agg #[.int .i64 7, .string ⟨CA.toArray⟩, .slice va' 2 vc', .int .i64 BA])) (S4 w7 w.heap.size (.int .i64 7) (.string ⟨CA.toArray⟩) (.slice va' 2 vc') (.int .i64 BA))) := hj (NSt.fin (n := CA) (l := ([(.mk RA SA OA EA)] ++ [(Nd.mk qC rC sC CC)])) HG.out HW.out (by rw [HR.out]; exact HM.out) IG.out)
              clear xL HG HW HM IG GG
              go_wp2_with fail
              exact ret_node rfl rfl rfl (by simp [go_sem, r0]) (by simp [go_sem, r1]) (by simp [go_sem, r2]) (by simp [go_sem, r3]) HF.out
          · obtain ⟨rfl, hHI⟩ : JC = false ∧ isT C.ts ZB [61] = true := by
              have := jF.out
              cases JC <;> simp_all
            have HI := hj hHI
            clear hHI
            have wL : Hid (R = (Tot ex false (ZB + 1)).bind fun x r => (takeP C.ts C.s.size [59] r).bind fun _ e => .ok (.mk 1 CA [x] (BA : Int)) e) := by
              show R = _
              rw [yL.out, tot_go, if_pos HI.out]
              rfl
            clear yL
            obtain ⟨yJ, zJ, JG, AK⟩ : aC.cell? ⟨C.pb, 2, none⟩ = some (.int .i64 ZB) ∧ aC.frozen? ⟨C.pb, 2, none⟩ = false ∧ ZB < C.ts.length ∧ C.ts.length ≤ 4096 := ⟨vB.out.st.cellsF.2.2.1, vB.out.st.cellsF.2.2.2.2.1, isT_lt HI.out, vB.out.st.len⟩
            have BK : IntKind.i64.wrap ((ZB : Int) + 1) = (ZB : Int) + 1 := IntWalk.i64_in _ (by omega)
            have CK := hj JG
            clear JG AK
            go_upto_region 10 with (fail)
            clear yJ zJ BK
            have MD : Hid (NSt C w (World.setCell aC ⟨C.pb, 2, none⟩ (.int .i64 ((ZB : Int) + 1))) false (ZB + 1) [(AA.heap.size, .int .i64 0, .string ⟨CA.toArray⟩, .slice none 0 0, .int .i64 BA), zB w.heap.size]) := hj (vB.out.step (q := ZB + 1) CK.out)
            clear vB
            generalize World.setCell aC ⟨C.pb, 2, none⟩ (.int .i64 ((ZB : Int) + 1)) = xI at MD ⊢
            obtain ⟨n0, n1, n2, n3, nf⟩ : BoxF xI (AA.heap.size) (.int .i64 0) (.string ⟨CA.toArray⟩) (.slice none 0 0) (.int .i64 BA) := MD.out.at_ (List.Mem.head _)
            go_upto_region 11 with (fail)
            clear n0 n1 n2 n3 nf
            have NC : Hid (NSt C w (World.setCell xI ⟨AA.heap.size, 0, none⟩ (.int .i64 1)) false (ZB + 1) [(AA.heap.size, .int .i64 1, .string ⟨CA.toArray⟩, .slice none 0 0, .int .i64 BA), zB w.heap.size]) := hj (NSt.set0 (pre := []) MD.out)
            clear MD
            generalize World.setCell xI ⟨AA.heap.size, 0, none⟩ (.int .i64 1) = dL at NC ⊢
            have yI := HHX.out _ _ _ NC.out.st (fun e => HNE.out (by rw [wL.out, e]; rfl)) HEX.out
            unfold RFinN at yI
            go_wp2_with fail
            (with_reducible refine yI.mono ?_)
            clear yI
            rintro e eB ⟨TF, OE, MB, NB, pA, YA, aB, vA, KG, rfl, LG, MG, NG⟩
            have OG : Hid (NSt C w eB TF OE [(AA.heap.size, .int .i64 1, .string ⟨CA.toArray⟩, .slice none 0 0, .int .i64 BA), zB w.heap.size]) := hj (NC.out.call MG NG)
            have PG : Hid (Rw (AA.heap.size + 1) eB [AA.heap.size, w.heap.size] pA aB) := hj (NC.out.row (NC.out.lt _ (List.Mem.head _)) LG)
            clear NC NG MG LG
            have pL : Hid (R = (Tot (takeP C.ts C.s.size [59]) TF OE).bind fun _ e => .ok (.mk 1 CA [(.mk MB NB pA YA)] (BA : Int)) e) := by
              show R = _
              rw [wL.out, KG.bind, ← tot_bind]
            clear KG wL
            go_upto_region 12 with (fail)
            have OC : Hid (NSt C w (World.alloc eB (.cells #[.int .i64 MB, .string ⟨NB.toArray⟩, .slice aB pA.length vA, .int .i64 YA] 53)) TF OE [nB eB.heap.size MB NB aB pA vA YA, (AA.heap.size, .int .i64 1, .string ⟨CA.toArray⟩, .slice none 0 0, .int .i64 BA), zB w.heap.size]) := hj (OG.out.alloc _ _ _ _)
            have PE : Hid (Rw (AA.heap.size + 1) (World.alloc eB (.cells #[.int .i64 MB, .string ⟨NB.toArray⟩, .slice aB pA.length vA, .int .i64 YA] 53)) [eB.heap.size, AA.heap.size, w.heap.size] pA aB) := hj (PG.out.alloc _)
            clear OG PG
            generalize World.alloc eB (.cells #[.int .i64 MB, .string ⟨NB.toArray⟩, .slice aB pA.length vA, .int .i64 YA] 53) = EL at OC PE ⊢
            have zI := rtake_any C TF OE [59] EL OC.out.st
            obtain ⟨TL, tC⟩ : ∃ pl, placeT C.ts C.s.size OE = pl := ⟨_, rfl⟩
            rw [tC] at zI
            have AJ := hj tC
            clear tC
            go_wp2_with fail
            (with_reducible refine zI.mono ?_)
            clear zI
            rintro e qA ⟨QE, RE, eL, QG, rfl, RG, SE⟩
            have hM390' := QG.place
            rw [AJ.out] at hM390'
            clear QG
            have DC : Hid (NSt C w qA QE RE [nB eB.heap.size MB NB aB pA vA YA, (AA.heap.size, .int .i64 1, .string ⟨CA.toArray⟩, .slice none 0 0, .int .i64 BA), zB w.heap.size]) := hj (OC.out.call RG SE)
            have SG : Hid (Rw (AA.heap.size + 1) qA [eB.heap.size, AA.heap.size, w.heap.size] pA aB) := hj (PE.out.call (Nat.lt_succ_of_le (Nat.le_of_lt (Nat.lt_of_lt_of_le OC.out.pb (show w.heap.size ≤ AA.heap.size from (OC.out.bx _ (List.Mem.tail _ (List.Mem.head _))).1)))) SE)
            clear OC PE SE RG
            have HM : Hid (Mt R QE RE (.mk 1 CA [(.mk MB NB pA YA)] (BA : Int))) := by
              show Mt _ _ _ _
              rw [pL.out, hM390'.bind]
              exact Mt.ret _ _ _
            clear hM390' pL
            obtain ⟨u00, u01, u02, u03, u0f⟩ : BoxF qA (eB.heap.size) (.int .i64 MB) (.string ⟨NB.toArray⟩) (.slice aB pA.length vA) (.int .i64 YA) := DC.out.at_ (List.Mem.head _)
            obtain ⟨n0, n1, n2, n3, nf⟩ : BoxF qA (AA.heap.size) (.int .i64 1) (.string ⟨CA.toArray⟩) (.slice none 0 0) (.int .i64 BA) := DC.out.at_ (List.Mem.tail _ (List.Mem.head _))
            have qL := fun o => al_cell n0 o
            have rL := fun o => al_cell n1 o
            have sL := fun o => al_cell n2 o
            have tL := fun o => al_cell n3 o
            have naf : ∀ ob o, (World.alloc qA ob).frozen? ⟨AA.heap.size, o, none⟩ = false := fun ob o => ((DC.out.bx _ (List.Mem.tail _ (List.Mem.head _))).2.alloc ob).facts.2.2.2.2 o
            go_upto_region 14 with (fail)
            clear n0 n1 n2 n3 nf u00 u01 u02 u03 u0f
            clear qL rL sL tL naf
            have TG : Hid (Rw (AA.heap.size + 1) (World.alloc qA (.cells #[.int .i64 MB, .string ⟨NB.toArray⟩, .slice aB pA.length vA, .int .i64 YA] 53)) [eB.heap.size, AA.heap.size, w.heap.size] [(.mk MB NB pA YA)] (some ⟨qA.heap.size, 0, none⟩)) := hj (Rw.one DC.out (DC.out.lt _ (List.Mem.tail _ (List.Mem.head _))) SG.out)
            have UG : Hid (NSt C w (World.alloc qA (.cells #[.int .i64 MB, .string ⟨NB.toArray⟩, .slice aB pA.length vA, .int .i64 YA] 53)) QE RE [nB eB.heap.size MB NB aB pA vA YA, (AA.heap.size, .int .i64 1, .string ⟨CA.toArray⟩, .slice none 0 0, .int .i64 BA), zB w.heap.size]) := hj (DC.out.blk _)
            clear DC SG
            have PC : Hid (NSt C w (World.setCell (World.alloc qA (.cells #[.int .i64 MB, .string ⟨NB.toArray⟩, .slice aB pA.length vA, .int .i64 YA] 53)) ⟨AA.heap.size, 2, none⟩ (.slice (some ⟨qA.heap.size, 0, none⟩) 1 1)) QE RE [nB eB.heap.size MB NB aB pA vA YA, (AA.heap.size, .int .i64 1, .string ⟨CA.toArray⟩, .slice (some ⟨qA.heap.size, 0, none⟩) 1 1, .int .i64 BA), zB w.heap.size]) := hj (NSt.set2 (pre := [nB eB.heap.size MB NB aB pA vA YA]) UG.out)
            have TE : Hid (Rw (AA.heap.size + 1) (World.setCell (World.alloc qA (.cells #[.int .i64 MB, .string ⟨NB.toArray⟩, .slice aB pA.length vA, .int .i64 YA] 53)) ⟨AA.heap.size, 2, none⟩ (.slice (some ⟨qA.heap.size, 0, none⟩) 1 1)) [eB.heap.size, AA.heap.size, w.heap.size] [(.mk MB NB pA YA)] (some ⟨qA.heap.size, 0, none⟩)) := hj (TG.out.set (List.Mem.tail _ (List.Mem.head _)))
            clear UG TG
            generalize World.setCell (World.alloc qA (.cells #[.int .i64 MB, .string ⟨NB.toArray⟩, .slice aB pA.length vA, .int .i64 YA] 53)) ⟨AA.heap.size, 2, none⟩ (.slice (some ⟨qA.heap.size, 0, none⟩) 1 1) = UE at PC TE ⊢
            obtain ⟨n0, n1, n2, n3, nf⟩ : BoxF UE (AA.heap.size) (.int .i64 1) (.string ⟨CA.toArray⟩) (.slice (some ⟨qA.heap.size, 0, none⟩) 1 1) (.int .i64 BA) := PC.out.at_ (List.Mem.tail _ (List.Mem.head _))
            obtain ⟨r0, r1, r2, r3, rf⟩ : BoxF UE (w.heap.size) (.int .i64 0) (.string ⟨#[]⟩) (.slice none 0 0) (.int .i64 0) := PC.out.at_ (List.Mem.tail _ (List.Mem.tail _ (List.Mem.head _)))
            have VG : Hid (NSt C w (S4 UE w.heap.size (.int .i64 1) (.string ⟨CA.toArray⟩) (.slice (some ⟨qA.heap.size, 0, none⟩) 1 1) (.int .i64 BA)) QE RE [nB eB.heap.size MB NB aB pA vA YA, (AA.heap.size, .int .i64 1, .string ⟨CA.toArray⟩, .slice (some ⟨qA.heap.size, 0, none⟩) 1 1, .int .i64 BA), (w.heap.size, .int .i64 1, .string ⟨CA.toArray⟩, .slice (some ⟨qA.heap.size, 0, none⟩) 1 1, .int .i64 BA)]) := hj (NSt.set4 (pre := [nB eB.heap.size MB NB aB pA vA YA, (AA.heap.size, .int .i64 1, .string ⟨CA.toArray⟩, .slice (some ⟨qA.heap.size, 0, none⟩) 1 1, .int .i64 BA)]) PC.out)
            have WG : Hid (Rw (AA.heap.size + 1) (S4 UE w.heap.size (.int .i64 1) (.string ⟨CA.toArray⟩) (.slice (some ⟨qA.heap.size, 0, none⟩) 1 1) (.int .i64 BA)) [eB.heap.size, AA.heap.size, w.heap.size] [(.mk MB NB pA YA)] (some ⟨qA.heap.size, 0, none⟩)) := hj (TE.out.set4 (List.Mem.tail _ (List.Mem.tail _ (List.Mem.head _))))
            have HW : Hid (w.heap.size ≤ (AA.heap.size + 1)) := hj (Nat.le_succ_of_le (show w.heap.size ≤ AA.heap.size from (PC.out.bx _ (List.Mem.tail _ (List.Mem.head _))).1))
            have HF : Hid (RFinN C w (stmtO C.ts C.s.size ex st f) b p (.returned (.agg #[.int .i64 1, .string ⟨CA.toArray⟩, .slice (some ⟨qA.heap.size, 0, none⟩) 1 1, .int .i64 BA])) (S4 UE w.heap.size (.int .i64 1) (.string ⟨CA.toArray⟩) (.slice (some ⟨qA.heap.size, 0, none⟩) 1 1) (.int .i64 BA))) := hj (NSt.fin (n := CA) (l := [(.mk MB NB pA YA)]) VG.out HW.out (by rw [HR.out]; exact HM.out) WG.out)
            clear PC VG HW HM WG TE
            go_wp2_with fail
            exact ret_node rfl rfl rfl (by simp [go_sem, r0]) (by simp [go_sem, r1]) (by simp [go_sem, r2]) (by simp [go_sem, r3]) HF.out
        · obtain ⟨rfl, hHI⟩ : b = false ∧ isT C.ts p [105, 102] = true := by
            have := fF.out
            cases b <;> simp_all
          have HI := hj hHI
          clear hHI
          have AM : Hid (R = (Tot (takeP C.ts C.s.size [40]) false (p + 1)).bind fun _ q => (ex q).bind fun x r => (takeP C.ts C.s.size [41] r).bind fun _ r1 => (blockO C.ts C.s.size st f r1).bind fun y r2 => if isT C.ts r2 wElse then (blockO C.ts C.s.size st f (r2 + 1)).bind fun z e => .ok (.mk 6 [] [x, y, z] (BA : Int)) e else .ok (.mk 6 [] [x, y] (BA : Int)) r2) := by
            show R = _
            have n0 : isT C.ts p wModule = false := by
              have := (show (!false && isT C.ts p wModule) = false from dC.out)
              simpa using this
            have n1 : isT C.ts p wFunction = false := by
              have := (show (!false && isT C.ts p wFunction) = false from ID.out)
              simpa using this
            have n2 : isT C.ts p wFor = false := by
              have := (show (!false && isT C.ts p wFor) = false from rD.out)
              simpa using this
            rw [HT.out, tot_go, stmtO, if_neg (by rw [n0]; decide), if_neg (by rw [n1]; decide), if_neg (by rw [n2]; decide), if_pos (show isT C.ts p wIf = true from HI.out), BC.out]
            rfl
          clear HT
          obtain ⟨DK, EK, XG, FK⟩ : YB.cell? ⟨C.pb, 2, none⟩ = some (.int .i64 p) ∧ YB.frozen? ⟨C.pb, 2, none⟩ = false ∧ p < C.ts.length ∧ C.ts.length ≤ 4096 := ⟨VA.out.st.cellsF.2.2.1, VA.out.st.cellsF.2.2.2.2.1, isT_lt HI.out, VA.out.st.len⟩
          have GK : IntKind.i64.wrap ((p : Int) + 1) = (p : Int) + 1 := IntWalk.i64_in _ (by omega)
          have HK := hj XG
          clear XG FK
          go_upto_region 52 with (fail)
          clear DK EK GK
          have ND : Hid (NSt C w (World.setCell YB ⟨C.pb, 2, none⟩ (.int .i64 ((p : Int) + 1))) false (p + 1) [(AA.heap.size, .int .i64 0, .string ⟨#[]⟩, .slice none 0 0, .int .i64 BA), zB w.heap.size]) := hj (VA.out.step (q := p + 1) HK.out)
          clear VA
          generalize World.setCell YB ⟨C.pb, 2, none⟩ (.int .i64 ((p : Int) + 1)) = BJ at ND ⊢
          obtain ⟨n0, n1, n2, n3, nf⟩ : BoxF BJ (AA.heap.size) (.int .i64 0) (.string ⟨#[]⟩) (.slice none 0 0) (.int .i64 BA) := ND.out.at_ (List.Mem.head _)
          go_upto_region 53 with (fail)
          clear n0 n1 n2 n3 nf
          have OD : Hid (NSt C w (World.setCell BJ ⟨AA.heap.size, 0, none⟩ (.int .i64 6)) false (p + 1) [(AA.heap.size, .int .i64 6, .string ⟨#[]⟩, .slice none 0 0, .int .i64 BA), zB w.heap.size]) := hj (NSt.set0 (pre := []) ND.out)
          clear ND
          generalize World.setCell BJ ⟨AA.heap.size, 0, none⟩ (.int .i64 6) = FL at OD ⊢
          have CJ := rtake_any C false (p + 1) [40] FL OD.out.st
          obtain ⟨UL, vC⟩ : ∃ pl, placeT C.ts C.s.size (p + 1) = pl := ⟨_, rfl⟩
          rw [vC] at CJ
          have DJ := hj vC
          clear vC
          go_wp2_with fail
          (with_reducible refine CJ.mono ?_)
          clear CJ
          rintro e GL ⟨IK, JK, fL, YG, rfl, ZG, aG⟩
          have hM413' := YG.place
          rw [DJ.out] at hM413'
          clear YG
          have jC : Hid (NSt C w GL IK JK [(AA.heap.size, .int .i64 6, .string ⟨#[]⟩, .slice none 0 0, .int .i64 BA), zB w.heap.size]) := hj (OD.out.call ZG aG)
          clear OD aG ZG
          have yL : Hid (R = (Tot ex IK JK).bind fun x r => (takeP C.ts C.s.size [41] r).bind fun _ r1 => (blockO C.ts C.s.size st f r1).bind fun y r2 => if isT C.ts r2 wElse then (blockO C.ts C.s.size st f (r2 + 1)).bind fun z e => .ok (.mk 6 [] [x, y, z] (BA : Int)) e else .ok (.mk 6 [] [x, y] (BA : Int)) r2) := by
            show R = _
            rw [AM.out, hM413'.bind, ← tot_bind]
          clear hM413' AM
          have EJ := HHX.out _ _ _ jC.out.st (fun e => HNE.out (by rw [yL.out, e]; rfl)) HEX.out
          unfold RFinN at EJ
          go_wp2_with fail
          (with_reducible refine EJ.mono ?_)
          clear EJ
          rintro e QB ⟨UF, VE, HA, IA, GA, DA, EB, fA, bG, rfl, cG, dG, eG⟩
          have fG : Hid (NSt C w QB UF VE [(AA.heap.size, .int .i64 6, .string ⟨#[]⟩, .slice none 0 0, .int .i64 BA), zB w.heap.size]) := hj (jC.out.call dG eG)
          have gG : Hid (Rw (AA.heap.size + 1) QB [AA.heap.size, w.heap.size] GA EB) := hj (jC.out.row (jC.out.lt _ (List.Mem.head _)) cG)
          clear jC eG dG cG
          have wL : Hid (R = (Tot (takeP C.ts C.s.size [41]) UF VE).bind fun _ r1 => (blockO C.ts C.s.size st f r1).bind fun y r2 => if isT C.ts r2 wElse then (blockO C.ts C.s.size st f (r2 + 1)).bind fun z e => .ok (.mk 6 [] [(.mk HA IA GA DA), y, z] (BA : Int)) e else .ok (.mk 6 [] [(.mk HA IA GA DA), y] (BA : Int)) r2) := by
            show R = _
            rw [yL.out, bG.bind, ← tot_bind]
          clear bG yL
          go_upto_region 55 with (fail)
          have QC : Hid (NSt C w (World.alloc QB (.cells #[.int .i64 HA, .string ⟨IA.toArray⟩, .slice EB GA.length fA, .int .i64 DA] 53)) UF VE [nB QB.heap.size HA IA EB GA fA DA, (AA.heap.size, .int .i64 6, .string ⟨#[]⟩, .slice none 0 0, .int .i64 BA), zB w.heap.size]) := hj (fG.out.alloc _ _ _ _)
          have WE : Hid (Rw (AA.heap.size + 1) (World.alloc QB (.cells #[.int .i64 HA, .string ⟨IA.toArray⟩, .slice EB GA.length fA, .int .i64 DA] 53)) [QB.heap.size, AA.heap.size, w.heap.size] GA EB) := hj (gG.out.alloc _)
          clear fG gG
          generalize World.alloc QB (.cells #[.int .i64 HA, .string ⟨IA.toArray⟩, .slice EB GA.length fA, .int .i64 DA] 53) = HL at QC WE ⊢
          have FJ := rtake_any C UF VE [41] HL QC.out.st
          obtain ⟨VL, wC⟩ : ∃ pl, placeT C.ts C.s.size VE = pl := ⟨_, rfl⟩
          rw [wC] at FJ
          have GJ := hj wC
          clear wC
          go_wp2_with fail
          (with_reducible refine FJ.mono ?_)
          clear FJ
          rintro e KK ⟨LK, MK, gL, hG, rfl, iG, XE⟩
          have hM442' := hG.place
          rw [GJ.out] at hM442'
          clear hG
          have EC : Hid (NSt C w KK LK MK [nB QB.heap.size HA IA EB GA fA DA, (AA.heap.size, .int .i64 6, .string ⟨#[]⟩, .slice none 0 0, .int .i64 BA), zB w.heap.size]) := hj (QC.out.call iG XE)
          have jG : Hid (Rw (AA.heap.size + 1) KK [QB.heap.size, AA.heap.size, w.heap.size] GA EB) := hj (WE.out.call (Nat.lt_succ_of_le (Nat.le_of_lt (Nat.lt_of_lt_of_le QC.out.pb (show w.heap.size ≤ AA.heap.size from (QC.out.bx _ (List.Mem.tail _ (List.Mem.head _))).1)))) XE)
          clear QC WE XE iG
          have pL : Hid (R = (Tot (blockO C.ts C.s.size st f) LK MK).bind fun y r2 => if isT C.ts r2 wElse then (blockO C.ts C.s.size st f (r2 + 1)).bind fun z e => .ok (.mk 6 [] [(.mk HA IA GA DA), y, z] (BA : Int)) e else .ok (.mk 6 [] [(.mk HA IA GA DA), y] (BA : Int)) r2) := by
            show R = _
            rw [wL.out, hM442'.bind, ← tot_bind]
          clear hM442' wL
          have HJ := rblock_any C st HHB.out f hf _ _ _ EC.out.st (fun e => HNE.out (by rw [pL.out, e]; rfl))
          unfold RFinN at HJ
          go_wp2_with fail
          (with_reducible refine HJ.mono ?_)
          clear HJ
          rintro e kB ⟨oB, zA, TA, UA, PA, FA, fB, wA, kG, rfl, lG, mG, YE⟩
          have nG : Hid (NSt C w kB oB zA [nB QB.heap.size HA IA EB GA fA DA, (AA.heap.size, .int .i64 6, .string ⟨#[]⟩, .slice none 0 0, .int .i64 BA), zB w.heap.size]) := hj (EC.out.call mG YE)
          have oG : Hid (Rw (AA.heap.size + 1) kB [QB.heap.size, AA.heap.size, w.heap.size] GA EB) := hj (jG.out.call (Nat.lt_succ_of_le (Nat.le_of_lt (Nat.lt_of_lt_of_le EC.out.pb (show w.heap.size ≤ AA.heap.size from (EC.out.bx _ (List.Mem.tail _ (List.Mem.head _))).1)))) YE)
          have pG : Hid (Rw (AA.heap.size + 1) kB [QB.heap.size, AA.heap.size, w.heap.size] PA fB) := hj (EC.out.row (EC.out.lt _ (List.Mem.tail _ (List.Mem.head _))) lG)
          clear EC jG YE mG lG
          have vL : Hid (R = Tot (fun r2 => if isT C.ts r2 wElse then (blockO C.ts C.s.size st f (r2 + 1)).bind fun z e => .ok (.mk 6 [] [(.mk HA IA GA DA), (.mk TA UA PA FA), z] (BA : Int)) e else .ok (.mk 6 [] [(.mk HA IA GA DA), (.mk TA UA PA FA)] (BA : Int)) r2) oB zA) := by
            show R = _
            rw [pL.out, kG.bind]
          clear kG pL
          go_upto_region 57 with (fail)
          have lB : Hid (NSt C w (World.alloc kB (.cells #[.int .i64 TA, .string ⟨UA.toArray⟩, .slice fB PA.length wA, .int .i64 FA] 53)) oB zA [nB kB.heap.size TA UA fB PA wA FA, nB QB.heap.size HA IA EB GA fA DA, (AA.heap.size, .int .i64 6, .string ⟨#[]⟩, .slice none 0 0, .int .i64 BA), zB w.heap.size]) := hj (nG.out.alloc _ _ _ _)
          have PD : Hid (Rw (AA.heap.size + 1) (World.alloc kB (.cells #[.int .i64 TA, .string ⟨UA.toArray⟩, .slice fB PA.length wA, .int .i64 FA] 53)) [kB.heap.size, QB.heap.size, AA.heap.size, w.heap.size] GA EB) := hj (oG.out.alloc _)
          have QD : Hid (Rw (AA.heap.size + 1) (World.alloc kB (.cells #[.int .i64 TA, .string ⟨UA.toArray⟩, .slice fB PA.length wA, .int .i64 FA] 53)) [kB.heap.size, QB.heap.size, AA.heap.size, w.heap.size] PA fB) := hj (pG.out.alloc _)
          clear nG oG pG
          generalize World.alloc kB (.cells #[.int .i64 TA, .string ⟨UA.toArray⟩, .slice fB PA.length wA, .int .i64 FA] 53) = JA at lB PD QD ⊢
          obtain ⟨u00, u01, u02, u03, u0f⟩ : BoxF JA (QB.heap.size) (.int .i64 HA) (.string ⟨IA.toArray⟩) (.slice EB GA.length fA) (.int .i64 DA) := lB.out.at_ (List.Mem.tail _ (List.Mem.head _))
          obtain ⟨u10, u11, u12, u13, u1f⟩ : BoxF JA (kB.heap.size) (.int .i64 TA) (.string ⟨UA.toArray⟩) (.slice fB PA.length wA) (.int .i64 FA) := lB.out.at_ (List.Mem.head _)
          obtain ⟨n0, n1, n2, n3, nf⟩ : BoxF JA (AA.heap.size) (.int .i64 6) (.string ⟨#[]⟩) (.slice none 0 0) (.int .i64 BA) := lB.out.at_ (List.Mem.tail _ (List.Mem.tail _ (List.Mem.head _)))
          have qL := fun o => al_cell n0 o
          have rL := fun o => al_cell n1 o
          have sL := fun o => al_cell n2 o
          have tL := fun o => al_cell n3 o
          have naf : ∀ ob o, (World.alloc JA ob).frozen? ⟨AA.heap.size, o, none⟩ = false := fun ob o => ((lB.out.bx _ (List.Mem.tail _ (List.Mem.tail _ (List.Mem.head _)))).2.alloc ob).facts.2.2.2.2 o
          go_upto_region 58 with (fail)
          clear n0 n1 n2 n3 nf u00 u01 u02 u03 u0f u10 u11 u12 u13 u1f
          clear qL rL sL tL naf
          have qG : Hid (Rw (AA.heap.size + 1) (World.alloc JA (.cells #[.int .i64 HA, .string ⟨IA.toArray⟩, .slice EB GA.length fA, .int .i64 DA, .int .i64 TA, .string ⟨UA.toArray⟩, .slice fB PA.length wA, .int .i64 FA] 53)) [kB.heap.size, QB.heap.size, AA.heap.size, w.heap.size] [(.mk HA IA GA DA), (.mk TA UA PA FA)] (some ⟨JA.heap.size, 0, none⟩)) := hj (Rw.two lB.out (lB.out.lt _ (List.Mem.tail _ (List.Mem.tail _ (List.Mem.head _)))) PD.out QD.out)
          have rG : Hid (NSt C w (World.alloc JA (.cells #[.int .i64 HA, .string ⟨IA.toArray⟩, .slice EB GA.length fA, .int .i64 DA, .int .i64 TA, .string ⟨UA.toArray⟩, .slice fB PA.length wA, .int .i64 FA] 53)) oB zA [nB kB.heap.size TA UA fB PA wA FA, nB QB.heap.size HA IA EB GA fA DA, (AA.heap.size, .int .i64 6, .string ⟨#[]⟩, .slice none 0 0, .int .i64 BA), zB w.heap.size]) := hj (lB.out.blk _)
          have sG : Hid (RowOwn (World.alloc JA (.cells #[.int .i64 HA, .string ⟨IA.toArray⟩, .slice EB GA.length fA, .int .i64 DA, .int .i64 TA, .string ⟨UA.toArray⟩, .slice fB PA.length wA, .int .i64 FA] 53)) (AA.heap.size + 1) (.slice (some ⟨JA.heap.size, 0, none⟩) 2 2) [(.mk HA IA GA DA), (.mk TA UA PA FA)]) := hj (RowOwn.two (lB.out.lt _ (List.Mem.tail _ (List.Mem.tail _ (List.Mem.head _)))) PD.out.raw QD.out.raw)
          clear lB PD QD
          have ZE : Hid (NSt C w (World.setCell (World.alloc JA (.cells #[.int .i64 HA, .string ⟨IA.toArray⟩, .slice EB GA.length fA, .int .i64 DA, .int .i64 TA, .string ⟨UA.toArray⟩, .slice fB PA.length wA, .int .i64 FA] 53)) ⟨AA.heap.size, 2, none⟩ (.slice (some ⟨JA.heap.size, 0, none⟩) 2 2)) oB zA [nB kB.heap.size TA UA fB PA wA FA, nB QB.heap.size HA IA EB GA fA DA, (AA.heap.size, .int .i64 6, .string ⟨#[]⟩, .slice (some ⟨JA.heap.size, 0, none⟩) 2 2, .int .i64 BA), zB w.heap.size]) := hj (NSt.set2 (pre := [nB kB.heap.size TA UA fB PA wA FA, nB QB.heap.size HA IA EB GA fA DA]) rG.out)
          have tG : Hid (Rw (AA.heap.size + 1) (World.setCell (World.alloc JA (.cells #[.int .i64 HA, .string ⟨IA.toArray⟩, .slice EB GA.length fA, .int .i64 DA, .int .i64 TA, .string ⟨UA.toArray⟩, .slice fB PA.length wA, .int .i64 FA] 53)) ⟨AA.heap.size, 2, none⟩ (.slice (some ⟨JA.heap.size, 0, none⟩) 2 2)) [kB.heap.size, QB.heap.size, AA.heap.size, w.heap.size] [(.mk HA IA GA DA), (.mk TA UA PA FA)] (some ⟨JA.heap.size, 0, none⟩)) := hj (qG.out.set (List.Mem.tail _ (List.Mem.tail _ (List.Mem.head _))))
          have aE : Hid (RowOwn (World.setCell (World.alloc JA (.cells #[.int .i64 HA, .string ⟨IA.toArray⟩, .slice EB GA.length fA, .int .i64 DA, .int .i64 TA, .string ⟨UA.toArray⟩, .slice fB PA.length wA, .int .i64 FA] 53)) ⟨AA.heap.size, 2, none⟩ (.slice (some ⟨JA.heap.size, 0, none⟩) 2 2)) (AA.heap.size + 1) (.slice (some ⟨JA.heap.size, 0, none⟩) 2 2) [(.mk HA IA GA DA), (.mk TA UA PA FA)]) := hj (sG.out.set (Nat.lt_succ_self _))
          clear rG qG sG
          generalize World.setCell (World.alloc JA (.cells #[.int .i64 HA, .string ⟨IA.toArray⟩, .slice EB GA.length fA, .int .i64 DA, .int .i64 TA, .string ⟨UA.toArray⟩, .slice fB PA.length wA, .int .i64 FA] 53)) ⟨AA.heap.size, 2, none⟩ (.slice (some ⟨JA.heap.size, 0, none⟩) 2 2) = IJ at ZE tG aE ⊢
          have RC : Hid (NSt C w IJ oB zA [(AA.heap.size, .int .i64 6, .string ⟨#[]⟩, .slice (some ⟨JA.heap.size, 0, none⟩) 2 2, .int .i64 BA), zB w.heap.size]) := hj (ZE.out.sub (List.Sublist.cons _ (List.Sublist.cons _ (List.Sublist.refl _))))
          clear ZE
          clear tG
          have JJ := ris_any C oB zA [101, 108, 115, 101] IJ RC.out.st
          obtain ⟨IL, bE⟩ : ∃ E, (!oB && isT C.ts zA [101, 108, 115, 101]) = E := ⟨_, rfl⟩
          rw [bE] at JJ
          have vG := hj bE
          clear bE
          go_wp2_with fail
          (with_reducible refine JJ.mono ?_)
          clear JJ
          rintro e pB ⟨rfl, cE⟩
          have dE := RC.out.st.below cE
          have xC : Ow C.pb IJ pB := Ow.of_below cE
          clear cE
          have dB : Hid (NSt C w pB oB zA [(AA.heap.size, .int .i64 6, .string ⟨#[]⟩, .slice (some ⟨JA.heap.size, 0, none⟩) 2 2, .int .i64 BA), zB w.heap.size]) := hj (RC.out.call dE xC)
          have RD : Hid (RowOwn pB (AA.heap.size + 1) (.slice (some ⟨JA.heap.size, 0, none⟩) 2 2) [(.mk HA IA GA DA), (.mk TA UA PA FA)]) := hj (aE.out.ow xC (Nat.lt_succ_of_le (Nat.le_of_lt (Nat.lt_of_lt_of_le RC.out.pb (show w.heap.size ≤ AA.heap.size from (RC.out.bx _ (List.Mem.head _)).1)))))
          clear aE
          clear RC xC dE
          cases IL
          · have eE : Hid (Rw (AA.heap.size + 1) pB [AA.heap.size, w.heap.size] [(.mk HA IA GA DA), (.mk TA UA PA FA)] (some ⟨JA.heap.size, 0, none⟩)) := hj (Rw.of_own (n := 0) RD.out (fun a ha => by have := HLO.out; simp only [List.mem_cons, List.not_mem_nil, or_false] at ha; rcases ha with rfl | rfl <;> omega)).1
            clear RD
            have HM : Hid (Mt R oB zA (.mk 6 [] [(.mk HA IA GA DA), (.mk TA UA PA FA)] (BA : Int))) := by
              show Mt _ _ _ _
              rw [vL.out, tot_if_f (show (!oB && isT C.ts zA wElse) = false from vG.out)]
              exact Mt.ret _ _ _
            clear vL
            obtain ⟨n0, n1, n2, n3, nf⟩ : BoxF pB (AA.heap.size) (.int .i64 6) (.string ⟨#[]⟩) (.slice (some ⟨JA.heap.size, 0, none⟩) 2 2) (.int .i64 BA) := dB.out.at_ (List.Mem.head _)
            obtain ⟨r0, r1, r2, r3, rf⟩ : BoxF pB (w.heap.size) (.int .i64 0) (.string ⟨#[]⟩) (.slice none 0 0) (.int .i64 0) := dB.out.at_ (List.Mem.tail _ (List.Mem.head _))
            have wG : Hid (NSt C w (S4 pB w.heap.size (.int .i64 6) (.string ⟨#[]⟩) (.slice (some ⟨JA.heap.size, 0, none⟩) 2 2) (.int .i64 BA)) oB zA [(AA.heap.size, .int .i64 6, .string ⟨#[]⟩, .slice (some ⟨JA.heap.size, 0, none⟩) 2 2, .int .i64 BA), (w.heap.size, .int .i64 6, .string ⟨#[]⟩, .slice (some ⟨JA.heap.size, 0, none⟩) 2 2, .int .i64 BA)]) := hj (NSt.set4 (pre := [(AA.heap.size, .int .i64 6, .string ⟨#[]⟩, .slice (some ⟨JA.heap.size, 0, none⟩) 2 2, .int .i64 BA)]) dB.out)
            have xG : Hid (Rw (AA.heap.size + 1) (S4 pB w.heap.size (.int .i64 6) (.string ⟨#[]⟩) (.slice (some ⟨JA.heap.size, 0, none⟩) 2 2) (.int .i64 BA)) [AA.heap.size, w.heap.size] [(.mk HA IA GA DA), (.mk TA UA PA FA)] (some ⟨JA.heap.size, 0, none⟩)) := hj (eE.out.set4 (List.Mem.tail _ (List.Mem.head _)))
            have HW : Hid (w.heap.size ≤ (AA.heap.size + 1)) := hj (Nat.le_succ_of_le (show w.heap.size ≤ AA.heap.size from (dB.out.bx _ (List.Mem.head _)).1))
            have HF : Hid (RFinN C w (stmtO C.ts C.s.size ex st f) false p (.returned (.agg #[.int .i64 6, .string ⟨#[]⟩, .slice (some ⟨JA.heap.size, 0, none⟩) 2 2, .int .i64 BA])) (S4 pB w.heap.size (.int .i64 6) (.string ⟨#[]⟩) (.slice (some ⟨JA.heap.size, 0, none⟩) 2 2) (.int .i64 BA))) := hj (NSt.fin (n := []) (l := [(.mk HA IA GA DA), (.mk TA UA PA FA)]) wG.out HW.out (by rw [HR.out]; exact HM.out) xG.out)
            clear dB wG HW HM xG eE
            go_wp2_with fail
            exact ret_node rfl rfl rfl (by simp [go_sem, r0]) (by simp [go_sem, r1]) (by simp [go_sem, r2]) (by simp [go_sem, r3]) HF.out
          · obtain ⟨rfl, JM⟩ : oB = false ∧ isT C.ts zA [101, 108, 115, 101] = true := by
              have := vG.out
              cases oB <;> simp_all
            have QM := hj JM
            clear JM
            have DM : Hid (R = (Tot (blockO C.ts C.s.size st f) false (zA + 1)).bind fun z e => .ok (.mk 6 [] [(.mk HA IA GA DA), (.mk TA UA PA FA), z] (BA : Int)) e) := by
              show R = _
              rw [vL.out, tot_go, if_pos (show isT C.ts zA wElse = true from QM.out)]
              rfl
            clear vL
            obtain ⟨NK, OK, yG, PK⟩ : pB.cell? ⟨C.pb, 2, none⟩ = some (.int .i64 zA) ∧ pB.frozen? ⟨C.pb, 2, none⟩ = false ∧ zA < C.ts.length ∧ C.ts.length ≤ 4096 := ⟨dB.out.st.cellsF.2.2.1, dB.out.st.cellsF.2.2.2.2.1, isT_lt QM.out, dB.out.st.len⟩
            have QK : IntKind.i64.wrap ((zA : Int) + 1) = (zA : Int) + 1 := IntWalk.i64_in _ (by omega)
            have RK := hj yG
            clear yG PK
            go_upto_region 61 with (fail)
            clear NK OK QK
            have FC : Hid (NSt C w (World.setCell pB ⟨C.pb, 2, none⟩ (.int .i64 ((zA : Int) + 1))) false (zA + 1) [(AA.heap.size, .int .i64 6, .string ⟨#[]⟩, .slice (some ⟨JA.heap.size, 0, none⟩) 2 2, .int .i64 BA), zB w.heap.size]) := hj (dB.out.step (q := zA + 1) RK.out)
            have SD : Hid (RowOwn (World.setCell pB ⟨C.pb, 2, none⟩ (.int .i64 ((zA : Int) + 1))) (AA.heap.size + 1) (.slice (some ⟨JA.heap.size, 0, none⟩) 2 2) [(.mk HA IA GA DA), (.mk TA UA PA FA)]) := hj (RD.out.ow ((Ow.refl _ _).setCell (a := ⟨C.pb, 2, none⟩) (.inl rfl) _) (Nat.lt_succ_of_le (Nat.le_of_lt (Nat.lt_of_lt_of_le dB.out.pb (show w.heap.size ≤ AA.heap.size from (dB.out.bx _ (List.Mem.head _)).1)))))
            clear dB RD
            generalize World.setCell pB ⟨C.pb, 2, none⟩ (.int .i64 ((zA : Int) + 1)) = KJ at FC SD ⊢
            have SK : Hid (∀ j, (Value.slice (some ⟨JA.heap.size, 0, none⟩) 2 2).ownBlock = some j → j < KJ.heap.size) := by
              obtain ⟨TM, h1, _⟩ := SD.out
              exact fun j hj => (h1.lt j hj).2
            have hszr : AA.heap.size + 1 ≤ KJ.heap.size := FC.out.lt _ (List.Mem.head _)
            have LJ := rblock_any C st HHB.out f hf _ _ _ FC.out.st (fun e => HNE.out (by rw [DM.out, e]; rfl))
            unfold RFinN at LJ
            go_wp2_with fail
            (with_reducible refine LJ.mono ?_)
            clear LJ
            rintro e kC ⟨VF, WF, yC, zC, AD, GC, TK, zG, AH, rfl, BH, CH, fE⟩
            have gE := hj AH
            have MJ := hj BH
            clear AH BH
            have SC : Hid (NSt C w kC VF WF [(AA.heap.size, .int .i64 6, .string ⟨#[]⟩, .slice (some ⟨JA.heap.size, 0, none⟩) 2 2, .int .i64 BA), zB w.heap.size]) := hj (FC.out.call CH fE)
            have DH : Hid (RowOwn kC (AA.heap.size + 1) (.slice (some ⟨JA.heap.size, 0, none⟩) 2 2) [(.mk HA IA GA DA), (.mk TA UA PA FA)]) := hj (SD.out.ow fE (Nat.lt_succ_of_le (Nat.le_of_lt (Nat.lt_of_lt_of_le FC.out.pb (show w.heap.size ≤ AA.heap.size from (FC.out.bx _ (List.Mem.head _)).1)))))
            clear SD
            clear FC fE CH
            obtain ⟨n0, n1, n2, n3, nf⟩ : BoxF kC (AA.heap.size) (.int .i64 6) (.string ⟨#[]⟩) (.slice (some ⟨JA.heap.size, 0, none⟩) 2 2) (.int .i64 BA) := SC.out.at_ (List.Mem.head _)
            have qL := fun o => al_cell n0 o
            have rL := fun o => al_cell n1 o
            have sL := fun o => al_cell n2 o
            have tL := fun o => al_cell n3 o
            have naf : ∀ ob o, (World.alloc kC ob).frozen? ⟨AA.heap.size, o, none⟩ = false := fun ob o => ((SC.out.bx _ (List.Mem.head _)).2.alloc ob).facts.2.2.2.2 o
            have BM : AA.heap.size + 1 ≤ kC.heap.size := SC.out.lt _ (List.Mem.head _)
            have hlo : ∀ x ∈ ([(AA.heap.size, .int .i64 6, .string ⟨#[]⟩, .slice (some ⟨JA.heap.size, 0, none⟩) 2 2, .int .i64 BA), zB w.heap.size] : List Bx), x.1 < (AA.heap.size + 1) := fun x hx => by have := HLO.out; simp only [List.mem_cons, List.not_mem_nil, or_false] at hx; rcases hx with rfl | rfl <;> (try dsimp only [zB]) <;> omega
            have HLOW := hj hlo
            clear hlo
            have HWB : Hid (w.heap.size ≤ (AA.heap.size + 1)) := hj (Nat.le_succ_of_le (show w.heap.size ≤ AA.heap.size from (SC.out.bx _ (List.Mem.head _)).1))
            go_wp2_with (at_builtin; refine Hold.out ?_)
            refine Hold.put ?_
            obtain ⟨xs, hown, hfl⟩ := DH.out
            have hlt := fun j hj => hown.lt j hj
            refine wpList_append_fresh _ rfl (.tmp 184) (.tmp 186) 22 rfl (AA.heap.size + 1) 53 i0 (.agg #[.int .i64 0, .string ⟨#[]⟩, .slice none 0 0, .int .i64 0]) 4 56 Tryz.underlying22 LM MM NM OM rfl (by decide) _ 2 _ rfl ((hown.alloc _).alloc _) ⟨kC.heap.size + 1, 0, none⟩ 1 1 [.int .i64 yC, .string ⟨zC.toArray⟩, .slice TK AD.length zG, .int .i64 GC] rfl rfl (by rw [show (kC.heap.size + 1) = (kC.alloc (.cells #[.int .i64 yC, .string ⟨zC.toArray⟩, .slice TK AD.length zG, .int .i64 GC] 53)).heap.size by simp]; exact cell_four_new _ _ _ _ _ _) (fun x hx => by simp at hx; rcases hx with rfl | rfl | rfl | rfl <;> rfl) (by unfold maxLen; omega) (by omega) (by simp; omega) ?_
            intro v' w6 hown' hgrow hfresh
            obtain ⟨va', vc', hv', CM, FM⟩ := NSt.app (S := KJ.heap.size) (acc := [(.mk HA IA GA DA), (.mk TA UA PA FA)]) SC.out HLOW.out HWB.out (((Below.refl _ _).alloc (Nat.le_refl _) _).alloc (by simp) _) hown hfl MJ.out SK.out (by omega) hown' hgrow hfresh
            obtain rfl : v' = .slice va' 3 vc' := hv'
            obtain ⟨z0, z1, z2, z3, zf⟩ : BoxF w6 AA.heap.size (.int .i64 6) (.string ⟨#[]⟩) (.slice (some ⟨JA.heap.size, 0, none⟩) 2 2) (.int .i64 BA) := CM.at_ (List.Mem.head _)
            have GM := hj CM
            have IM := hj FM
            clear CM FM hown hfl hlt hown' hgrow hfresh hszr BM
            clear DH SC
            clear n0 n1 n2 n3 nf
            clear qL rL sL tL naf
            go_upto_region 63 with (fail)
            have zL : Hid (RowOwn (World.setCell w6 ⟨AA.heap.size, 2, none⟩ (.slice va' 3 vc')) (AA.heap.size + 1) (.slice va' 3 vc') ([(.mk HA IA GA DA), (.mk TA UA PA FA)] ++ [(Nd.mk yC zC AD GC)])) := hj (IM.out.set (Nat.lt_succ_self _))
            clear IM z0 z1 z2 z3 zf
            have xL : Hid (NSt C w (World.setCell w6 ⟨AA.heap.size, 2, none⟩ (.slice va' 3 vc')) VF WF [(AA.heap.size, .int .i64 6, .string ⟨#[]⟩, .slice va' 3 vc', .int .i64 BA), zB w.heap.size]) := hj (NSt.set2 (pre := []) GM.out)
            clear GM
            generalize World.setCell w6 ⟨AA.heap.size, 2, none⟩ (.slice va' 3 vc') = w7 at xL zL ⊢
            have hcap := zL.out.cap
            have EH : Hid (Rw (AA.heap.size + 1) w7 [AA.heap.size, w.heap.size] ([(.mk HA IA GA DA), (.mk TA UA PA FA)] ++ [(Nd.mk yC zC AD GC)]) va') := hj (Rw.of_own (n := 0) zL.out (fun a ha => by have := HLO.out; simp only [List.mem_cons, List.not_mem_nil, or_false] at ha; rcases ha with rfl | rfl <;> omega)).1
            clear zL
            have HM : Hid (Mt R VF WF (.mk 6 [] [(.mk HA IA GA DA), (.mk TA UA PA FA), (Nd.mk yC zC AD GC)] (BA : Int))) := by
              show Mt _ _ _ _
              rw [DM.out, gE.out.bind]
              exact Mt.ret _ _ _
            clear gE DM
            obtain ⟨n0, n1, n2, n3, nf⟩ : BoxF w7 (AA.heap.size) (.int .i64 6) (.string ⟨#[]⟩) (.slice va' 3 vc') (.int .i64 BA) := xL.out.at_ (List.Mem.head _)
            obtain ⟨r0, r1, r2, r3, rf⟩ : BoxF w7 (w.heap.size) (.int .i64 0) (.string ⟨#[]⟩) (.slice none 0 0) (.int .i64 0) := xL.out.at_ (List.Mem.tail _ (List.Mem.head _))
            have FH : Hid (NSt C w (S4 w7 w.heap.size (.int .i64 6) (.string ⟨#[]⟩) (.slice va' 3 vc') (.int .i64 BA)) VF WF [(AA.heap.size, .int .i64 6, .string ⟨#[]⟩, .slice va' 3 vc', .int .i64 BA), (w.heap.size, .int .i64 6, .string ⟨#[]⟩, .slice va' 3 vc', .int .i64 BA)]) := hj (NSt.set4 (pre := [(AA.heap.size, .int .i64 6, .string ⟨#[]⟩, .slice va' 3 vc', .int .i64 BA)]) xL.out)
            have GH : Hid (Rw (AA.heap.size + 1) (S4 w7 w.heap.size (.int .i64 6) (.string ⟨#[]⟩) (.slice va' 3 vc') (.int .i64 BA)) [AA.heap.size, w.heap.size] ([(.mk HA IA GA DA), (.mk TA UA PA FA)] ++ [(Nd.mk yC zC AD GC)]) va') := hj (EH.out.set4 (List.Mem.tail _ (List.Mem.head _)))
            have HW : Hid (w.heap.size ≤ (AA.heap.size + 1)) := hj (Nat.le_succ_of_le (show w.heap.size ≤ AA.heap.size from (xL.out.bx _ (List.Mem.head _)).1))
            have HF : Hid (RFinN C w (stmtO C.ts C.s.size ex st f) false p (.returned (.agg #[.int .i64 6, .string ⟨#[]⟩, .slice va' 3 vc', .int .i64 BA])) (S4 w7 w.heap.size (.int .i64 6) (.string ⟨#[]⟩) (.slice va' 3 vc') (.int .i64 BA))) := hj (NSt.fin (n := []) (l := ([(.mk HA IA GA DA), (.mk TA UA PA FA)] ++ [(Nd.mk yC zC AD GC)])) FH.out HW.out (by rw [HR.out]; exact HM.out) GH.out)
            clear xL FH HW HM GH EH
            go_wp2_with fail
            exact ret_node rfl rfl rfl (by simp [go_sem, r0]) (by simp [go_sem, r1]) (by simp [go_sem, r2]) (by simp [go_sem, r3]) HF.out
      · obtain ⟨rfl, hHI⟩ : b = false ∧ isT C.ts p [102, 111, 114] = true := by
          have := rD.out
          cases b <;> simp_all
        have HI := hj hHI
        clear hHI
        have AM : Hid (R = (Tot (takeP C.ts C.s.size [40]) false (p + 1)).bind fun v0 q0 => (nameP C.ts q0).bind fun v1 q1 => (takeP C.ts C.s.size [61] q1).bind fun v2 q2 => (ex q2).bind fun v3 q3 => (takeP C.ts C.s.size [41] q3).bind fun v4 q4 => (blockO C.ts C.s.size st f q4).bind fun v5 q5 => .ok (.mk 5 v1 [v3, v5] (BA : Int)) q5) := by
          show R = _
          have n0 : isT C.ts p wModule = false := by
            have := (show (!false && isT C.ts p wModule) = false from dC.out)
            simpa using this
          have n1 : isT C.ts p wFunction = false := by
            have := (show (!false && isT C.ts p wFunction) = false from ID.out)
            simpa using this
          rw [HT.out, tot_go, stmtO, if_neg (by rw [n0]; decide), if_neg (by rw [n1]; decide), if_pos (show isT C.ts p wFor = true from HI.out), BC.out]
          rfl
        clear HT
        obtain ⟨UK, VK, HH, WK⟩ : YB.cell? ⟨C.pb, 2, none⟩ = some (.int .i64 p) ∧ YB.frozen? ⟨C.pb, 2, none⟩ = false ∧ p < C.ts.length ∧ C.ts.length ≤ 4096 := ⟨VA.out.st.cellsF.2.2.1, VA.out.st.cellsF.2.2.2.2.1, isT_lt HI.out, VA.out.st.len⟩
        have XK : IntKind.i64.wrap ((p : Int) + 1) = (p : Int) + 1 := IntWalk.i64_in _ (by omega)
        have YK := hj HH
        clear HH WK
        go_upto_region 42 with (fail)
        clear UK VK XK
        have TD : Hid (NSt C w (World.setCell YB ⟨C.pb, 2, none⟩ (.int .i64 ((p : Int) + 1))) false (p + 1) [(AA.heap.size, .int .i64 0, .string ⟨#[]⟩, .slice none 0 0, .int .i64 BA), zB w.heap.size]) := hj (VA.out.step (q := p + 1) YK.out)
        clear VA
        generalize World.setCell YB ⟨C.pb, 2, none⟩ (.int .i64 ((p : Int) + 1)) = NJ at TD ⊢
        obtain ⟨n0, n1, n2, n3, nf⟩ : BoxF NJ (AA.heap.size) (.int .i64 0) (.string ⟨#[]⟩) (.slice none 0 0) (.int .i64 BA) := TD.out.at_ (List.Mem.head _)
        go_upto_region 43 with (fail)
        clear n0 n1 n2 n3 nf
        have UD : Hid (NSt C w (World.setCell NJ ⟨AA.heap.size, 0, none⟩ (.int .i64 5)) false (p + 1) [(AA.heap.size, .int .i64 5, .string ⟨#[]⟩, .slice none 0 0, .int .i64 BA), zB w.heap.size]) := hj (NSt.set0 (pre := []) TD.out)
        clear TD
        generalize World.setCell NJ ⟨AA.heap.size, 0, none⟩ (.int .i64 5) = JL at UD ⊢
        have OJ := rtake_any C false (p + 1) [40] JL UD.out.st
        obtain ⟨WL, BD⟩ : ∃ pl, placeT C.ts C.s.size (p + 1) = pl := ⟨_, rfl⟩
        rw [BD] at OJ
        have PJ := hj BD
        clear BD
        go_wp2_with fail
        (with_reducible refine OJ.mono ?_)
        clear OJ
        rintro e ZK ⟨QJ, RJ, hL, IH, rfl, JH, KH⟩
        have hM519' := IH.place
        rw [PJ.out] at hM519'
        clear IH
        have hE : Hid (NSt C w ZK QJ RJ [(AA.heap.size, .int .i64 5, .string ⟨#[]⟩, .slice none 0 0, .int .i64 BA), zB w.heap.size]) := hj (UD.out.call JH KH)
        clear UD KH JH
        have yL : Hid (R = (Tot (nameP C.ts) QJ RJ).bind fun v1 q1 => (takeP C.ts C.s.size [61] q1).bind fun v2 q2 => (ex q2).bind fun v3 q3 => (takeP C.ts C.s.size [41] q3).bind fun v4 q4 => (blockO C.ts C.s.size st f q4).bind fun v5 q5 => .ok (.mk 5 v1 [v3, v5] (BA : Int)) q5) := by
          show R = _
          rw [AM.out, hM519'.bind, ← tot_bind]
        clear hM519' AM
        have aK := rnameq_any C QJ RJ ZK hE.out.st
        go_wp2_with fail
        (with_reducible refine aK.mono ?_)
        clear aK
        rintro e XF ⟨YF, iE, MA, LH, rfl, MH, NH⟩
        have jE : Hid (NSt C w XF YF iE [(AA.heap.size, .int .i64 5, .string ⟨#[]⟩, .slice none 0 0, .int .i64 BA), zB w.heap.size]) := hj (hE.out.call MH NH)
        clear hE NH MH
        have wL : Hid (R = (Tot (takeP C.ts C.s.size [61]) YF iE).bind fun v2 q2 => (ex q2).bind fun v3 q3 => (takeP C.ts C.s.size [41] q3).bind fun v4 q4 => (blockO C.ts C.s.size st f q4).bind fun v5 q5 => .ok (.mk 5 MA [v3, v5] (BA : Int)) q5) := by
          show R = _
          rw [yL.out, LH.bind, ← tot_bind]
        clear LH yL
        obtain ⟨n0, n1, n2, n3, nf⟩ : BoxF XF (AA.heap.size) (.int .i64 5) (.string ⟨#[]⟩) (.slice none 0 0) (.int .i64 BA) := jE.out.at_ (List.Mem.head _)
        go_upto_region 45 with (fail)
        clear n0 n1 n2 n3 nf
        have VD : Hid (NSt C w (World.setCell XF ⟨AA.heap.size, 1, none⟩ (.string ⟨MA.toArray⟩)) YF iE [(AA.heap.size, .int .i64 5, .string ⟨MA.toArray⟩, .slice none 0 0, .int .i64 BA), zB w.heap.size]) := hj (NSt.set1 (pre := []) jE.out)
        clear jE
        generalize World.setCell XF ⟨AA.heap.size, 1, none⟩ (.string ⟨MA.toArray⟩) = KL at VD ⊢
        have SJ := rtake_any C YF iE [61] KL VD.out.st
        obtain ⟨XL, CD⟩ : ∃ pl, placeT C.ts C.s.size iE = pl := ⟨_, rfl⟩
        rw [CD] at SJ
        have TJ := hj CD
        clear CD
        go_wp2_with fail
        (with_reducible refine SJ.mono ?_)
        clear SJ
        rintro e LL ⟨bK, cK, iL, OH, rfl, PH, QH⟩
        have hM540' := OH.place
        rw [TJ.out] at hM540'
        clear OH
        have lC : Hid (NSt C w LL bK cK [(AA.heap.size, .int .i64 5, .string ⟨MA.toArray⟩, .slice none 0 0, .int .i64 BA), zB w.heap.size]) := hj (VD.out.call PH QH)
        clear VD QH PH
        have pL : Hid (R = (Tot (ex) bK cK).bind fun v3 q3 => (takeP C.ts C.s.size [41] q3).bind fun v4 q4 => (blockO C.ts C.s.size st f q4).bind fun v5 q5 => .ok (.mk 5 MA [v3, v5] (BA : Int)) q5) := by
          show R = _
          rw [wL.out, hM540'.bind, ← tot_bind]
        clear hM540' wL
        have UJ := HHX.out _ _ _ lC.out.st (fun e => HNE.out (by rw [pL.out, e]; rfl)) HEX.out
        unfold RFinN at UJ
        go_wp2_with fail
        (with_reducible refine UJ.mono ?_)
        clear UJ
        rintro e AB ⟨ZF, kE, rA, sA, dA, QA, FB, gA, RH, rfl, SH, TH, UH⟩
        have VH : Hid (NSt C w AB ZF kE [(AA.heap.size, .int .i64 5, .string ⟨MA.toArray⟩, .slice none 0 0, .int .i64 BA), zB w.heap.size]) := hj (lC.out.call TH UH)
        have WH : Hid (Rw (AA.heap.size + 1) AB [AA.heap.size, w.heap.size] dA FB) := hj (lC.out.row (lC.out.lt _ (List.Mem.head _)) SH)
        clear lC UH TH SH
        have vL : Hid (R = (Tot (takeP C.ts C.s.size [41]) ZF kE).bind fun v4 q4 => (blockO C.ts C.s.size st f q4).bind fun v5 q5 => .ok (.mk 5 MA [(.mk rA sA dA QA), v5] (BA : Int)) q5) := by
          show R = _
          rw [pL.out, RH.bind, ← tot_bind]
        clear RH pL
        go_upto_region 47 with (fail)
        have TC : Hid (NSt C w (World.alloc AB (.cells #[.int .i64 rA, .string ⟨sA.toArray⟩, .slice FB dA.length gA, .int .i64 QA] 53)) ZF kE [nB AB.heap.size rA sA FB dA gA QA, (AA.heap.size, .int .i64 5, .string ⟨MA.toArray⟩, .slice none 0 0, .int .i64 BA), zB w.heap.size]) := hj (VH.out.alloc _ _ _ _)
        have lE : Hid (Rw (AA.heap.size + 1) (World.alloc AB (.cells #[.int .i64 rA, .string ⟨sA.toArray⟩, .slice FB dA.length gA, .int .i64 QA] 53)) [AB.heap.size, AA.heap.size, w.heap.size] dA FB) := hj (WH.out.alloc _)
        clear VH WH
        generalize World.alloc AB (.cells #[.int .i64 rA, .string ⟨sA.toArray⟩, .slice FB dA.length gA, .int .i64 QA] 53) = ML at TC lE ⊢
        have VJ := rtake_any C ZF kE [41] ML TC.out.st
        obtain ⟨YL, DD⟩ : ∃ pl, placeT C.ts C.s.size kE = pl := ⟨_, rfl⟩
        rw [DD] at VJ
        have WJ := hj DD
        clear DD
        go_wp2_with fail
        (with_reducible refine VJ.mono ?_)
        clear VJ
        rintro e dK ⟨eK, fK, jL, XH, rfl, YH, mE⟩
        have hM569' := XH.place
        rw [WJ.out] at hM569'
        clear XH
        have HC : Hid (NSt C w dK eK fK [nB AB.heap.size rA sA FB dA gA QA, (AA.heap.size, .int .i64 5, .string ⟨MA.toArray⟩, .slice none 0 0, .int .i64 BA), zB w.heap.size]) := hj (TC.out.call YH mE)
        have ZH : Hid (Rw (AA.heap.size + 1) dK [AB.heap.size, AA.heap.size, w.heap.size] dA FB) := hj (lE.out.call (Nat.lt_succ_of_le (Nat.le_of_lt (Nat.lt_of_lt_of_le TC.out.pb (show w.heap.size ≤ AA.heap.size from (TC.out.bx _ (List.Mem.tail _ (List.Mem.head _))).1)))) mE)
        clear TC lE mE YH
        have DM : Hid (R = (Tot (blockO C.ts C.s.size st f) eK fK).bind fun v5 q5 => .ok (.mk 5 MA [(.mk rA sA dA QA), v5] (BA : Int)) q5) := by
          show R = _
          rw [vL.out, hM569'.bind, ← tot_bind]
        clear hM569' vL
        have XJ := rblock_any C st HHB.out f hf _ _ _ HC.out.st (fun e => HNE.out (by rw [DM.out, e]; rfl))
        unfold RFinN at XJ
        go_wp2_with fail
        (with_reducible refine XJ.mono ?_)
        clear XJ
        rintro e bB ⟨bD, cD, SB, TB, GB, bA, gB, xA, aH, rfl, bH, cH, nE⟩
        have dH : Hid (NSt C w bB bD cD [nB AB.heap.size rA sA FB dA gA QA, (AA.heap.size, .int .i64 5, .string ⟨MA.toArray⟩, .slice none 0 0, .int .i64 BA), zB w.heap.size]) := hj (HC.out.call cH nE)
        have eH : Hid (Rw (AA.heap.size + 1) bB [AB.heap.size, AA.heap.size, w.heap.size] dA FB) := hj (ZH.out.call (Nat.lt_succ_of_le (Nat.le_of_lt (Nat.lt_of_lt_of_le HC.out.pb (show w.heap.size ≤ AA.heap.size from (HC.out.bx _ (List.Mem.tail _ (List.Mem.head _))).1)))) nE)
        have fH : Hid (Rw (AA.heap.size + 1) bB [AB.heap.size, AA.heap.size, w.heap.size] GB gB) := hj (HC.out.row (HC.out.lt _ (List.Mem.tail _ (List.Mem.head _))) bH)
        clear HC ZH nE cH bH
        have HM : Hid (Mt R bD cD (.mk 5 MA [(.mk rA sA dA QA), (.mk SB TB GB bA)] (BA : Int))) := by
          show Mt _ _ _ _
          rw [DM.out, aH.bind]
          exact Mt.ret _ _ _
        clear aH DM
        go_upto_region 49 with (fail)
        have qB : Hid (NSt C w (World.alloc bB (.cells #[.int .i64 SB, .string ⟨TB.toArray⟩, .slice gB GB.length xA, .int .i64 bA] 53)) bD cD [nB bB.heap.size SB TB gB GB xA bA, nB AB.heap.size rA sA FB dA gA QA, (AA.heap.size, .int .i64 5, .string ⟨MA.toArray⟩, .slice none 0 0, .int .i64 BA), zB w.heap.size]) := hj (dH.out.alloc _ _ _ _)
        have oE : Hid (Rw (AA.heap.size + 1) (World.alloc bB (.cells #[.int .i64 SB, .string ⟨TB.toArray⟩, .slice gB GB.length xA, .int .i64 bA] 53)) [bB.heap.size, AB.heap.size, AA.heap.size, w.heap.size] dA FB) := hj (eH.out.alloc _)
        have pE : Hid (Rw (AA.heap.size + 1) (World.alloc bB (.cells #[.int .i64 SB, .string ⟨TB.toArray⟩, .slice gB GB.length xA, .int .i64 bA] 53)) [bB.heap.size, AB.heap.size, AA.heap.size, w.heap.size] GB gB) := hj (fH.out.alloc _)
        clear dH eH fH
        generalize World.alloc bB (.cells #[.int .i64 SB, .string ⟨TB.toArray⟩, .slice gB GB.length xA, .int .i64 bA] 53) = BB at qB oE pE ⊢
        obtain ⟨u00, u01, u02, u03, u0f⟩ : BoxF BB (AB.heap.size) (.int .i64 rA) (.string ⟨sA.toArray⟩) (.slice FB dA.length gA) (.int .i64 QA) := qB.out.at_ (List.Mem.tail _ (List.Mem.head _))
        obtain ⟨u10, u11, u12, u13, u1f⟩ : BoxF BB (bB.heap.size) (.int .i64 SB) (.string ⟨TB.toArray⟩) (.slice gB GB.length xA) (.int .i64 bA) := qB.out.at_ (List.Mem.head _)
        obtain ⟨n0, n1, n2, n3, nf⟩ : BoxF BB (AA.heap.size) (.int .i64 5) (.string ⟨MA.toArray⟩) (.slice none 0 0) (.int .i64 BA) := qB.out.at_ (List.Mem.tail _ (List.Mem.tail _ (List.Mem.head _)))
        have qL := fun o => al_cell n0 o
        have rL := fun o => al_cell n1 o
        have sL := fun o => al_cell n2 o
        have tL := fun o => al_cell n3 o
        have naf : ∀ ob o, (World.alloc BB ob).frozen? ⟨AA.heap.size, o, none⟩ = false := fun ob o => ((qB.out.bx _ (List.Mem.tail _ (List.Mem.tail _ (List.Mem.head _)))).2.alloc ob).facts.2.2.2.2 o
        go_upto_region 63 with (fail)
        clear n0 n1 n2 n3 nf u00 u01 u02 u03 u0f u10 u11 u12 u13 u1f
        clear qL rL sL tL naf
        have gH : Hid (Rw (AA.heap.size + 1) (World.alloc BB (.cells #[.int .i64 rA, .string ⟨sA.toArray⟩, .slice FB dA.length gA, .int .i64 QA, .int .i64 SB, .string ⟨TB.toArray⟩, .slice gB GB.length xA, .int .i64 bA] 53)) [bB.heap.size, AB.heap.size, AA.heap.size, w.heap.size] [(.mk rA sA dA QA), (.mk SB TB GB bA)] (some ⟨BB.heap.size, 0, none⟩)) := hj (Rw.two qB.out (qB.out.lt _ (List.Mem.tail _ (List.Mem.tail _ (List.Mem.head _)))) oE.out pE.out)
        have hH : Hid (NSt C w (World.alloc BB (.cells #[.int .i64 rA, .string ⟨sA.toArray⟩, .slice FB dA.length gA, .int .i64 QA, .int .i64 SB, .string ⟨TB.toArray⟩, .slice gB GB.length xA, .int .i64 bA] 53)) bD cD [nB bB.heap.size SB TB gB GB xA bA, nB AB.heap.size rA sA FB dA gA QA, (AA.heap.size, .int .i64 5, .string ⟨MA.toArray⟩, .slice none 0 0, .int .i64 BA), zB w.heap.size]) := hj (qB.out.blk _)
        clear qB oE pE
        have UC : Hid (NSt C w (World.setCell (World.alloc BB (.cells #[.int .i64 rA, .string ⟨sA.toArray⟩, .slice FB dA.length gA, .int .i64 QA, .int .i64 SB, .string ⟨TB.toArray⟩, .slice gB GB.length xA, .int .i64 bA] 53)) ⟨AA.heap.size, 2, none⟩ (.slice (some ⟨BB.heap.size, 0, none⟩) 2 2)) bD cD [nB bB.heap.size SB TB gB GB xA bA, nB AB.heap.size rA sA FB dA gA QA, (AA.heap.size, .int .i64 5, .string ⟨MA.toArray⟩, .slice (some ⟨BB.heap.size, 0, none⟩) 2 2, .int .i64 BA), zB w.heap.size]) := hj (NSt.set2 (pre := [nB bB.heap.size SB TB gB GB xA bA, nB AB.heap.size rA sA FB dA gA QA]) hH.out)
        have qE : Hid (Rw (AA.heap.size + 1) (World.setCell (World.alloc BB (.cells #[.int .i64 rA, .string ⟨sA.toArray⟩, .slice FB dA.length gA, .int .i64 QA, .int .i64 SB, .string ⟨TB.toArray⟩, .slice gB GB.length xA, .int .i64 bA] 53)) ⟨AA.heap.size, 2, none⟩ (.slice (some ⟨BB.heap.size, 0, none⟩) 2 2)) [bB.heap.size, AB.heap.size, AA.heap.size, w.heap.size] [(.mk rA sA dA QA), (.mk SB TB GB bA)] (some ⟨BB.heap.size, 0, none⟩)) := hj (gH.out.set (List.Mem.tail _ (List.Mem.tail _ (List.Mem.head _))))
        clear hH gH
        generalize World.setCell (World.alloc BB (.cells #[.int .i64 rA, .string ⟨sA.toArray⟩, .slice FB dA.length gA, .int .i64 QA, .int .i64 SB, .string ⟨TB.toArray⟩, .slice gB GB.length xA, .int .i64 bA] 53)) ⟨AA.heap.size, 2, none⟩ (.slice (some ⟨BB.heap.size, 0, none⟩) 2 2) = rE at UC qE ⊢
        obtain ⟨n0, n1, n2, n3, nf⟩ : BoxF rE (AA.heap.size) (.int .i64 5) (.string ⟨MA.toArray⟩) (.slice (some ⟨BB.heap.size, 0, none⟩) 2 2) (.int .i64 BA) := UC.out.at_ (List.Mem.tail _ (List.Mem.tail _ (List.Mem.head _)))
        obtain ⟨r0, r1, r2, r3, rf⟩ : BoxF rE (w.heap.size) (.int .i64 0) (.string ⟨#[]⟩) (.slice none 0 0) (.int .i64 0) := UC.out.at_ (List.Mem.tail _ (List.Mem.tail _ (List.Mem.tail _ (List.Mem.head _))))
        have iH : Hid (NSt C w (S4 rE w.heap.size (.int .i64 5) (.string ⟨MA.toArray⟩) (.slice (some ⟨BB.heap.size, 0, none⟩) 2 2) (.int .i64 BA)) bD cD [nB bB.heap.size SB TB gB GB xA bA, nB AB.heap.size rA sA FB dA gA QA, (AA.heap.size, .int .i64 5, .string ⟨MA.toArray⟩, .slice (some ⟨BB.heap.size, 0, none⟩) 2 2, .int .i64 BA), (w.heap.size, .int .i64 5, .string ⟨MA.toArray⟩, .slice (some ⟨BB.heap.size, 0, none⟩) 2 2, .int .i64 BA)]) := hj (NSt.set4 (pre := [nB bB.heap.size SB TB gB GB xA bA, nB AB.heap.size rA sA FB dA gA QA, (AA.heap.size, .int .i64 5, .string ⟨MA.toArray⟩, .slice (some ⟨BB.heap.size, 0, none⟩) 2 2, .int .i64 BA)]) UC.out)
        have jH : Hid (Rw (AA.heap.size + 1) (S4 rE w.heap.size (.int .i64 5) (.string ⟨MA.toArray⟩) (.slice (some ⟨BB.heap.size, 0, none⟩) 2 2) (.int .i64 BA)) [bB.heap.size, AB.heap.size, AA.heap.size, w.heap.size] [(.mk rA sA dA QA), (.mk SB TB GB bA)] (some ⟨BB.heap.size, 0, none⟩)) := hj (qE.out.set4 (List.Mem.tail _ (List.Mem.tail _ (List.Mem.tail _ (List.Mem.head _)))))
        have HW : Hid (w.heap.size ≤ (AA.heap.size + 1)) := hj (Nat.le_succ_of_le (show w.heap.size ≤ AA.heap.size from (UC.out.bx _ (List.Mem.tail _ (List.Mem.tail _ (List.Mem.head _)))).1))
        have HF : Hid (RFinN C w (stmtO C.ts C.s.size ex st f) false p (.returned (.agg #[.int .i64 5, .string ⟨MA.toArray⟩, .slice (some ⟨BB.heap.size, 0, none⟩) 2 2, .int .i64 BA])) (S4 rE w.heap.size (.int .i64 5) (.string ⟨MA.toArray⟩) (.slice (some ⟨BB.heap.size, 0, none⟩) 2 2) (.int .i64 BA))) := hj (NSt.fin (n := MA) (l := [(.mk rA sA dA QA), (.mk SB TB GB bA)]) iH.out HW.out (by rw [HR.out]; exact HM.out) jH.out)
        clear UC iH HW HM jH qE
        go_wp2_with fail
        exact ret_node rfl rfl rfl (by simp [go_sem, r0]) (by simp [go_sem, r1]) (by simp [go_sem, r2]) (by simp [go_sem, r3]) HF.out
    · obtain ⟨rfl, hHI⟩ : b = false ∧ isT C.ts p [102, 117, 110, 99, 116, 105, 111, 110] = true := by
        have := ID.out
        cases b <;> simp_all
      have HI := hj hHI
      clear hHI
      have RM : Hid (R = (Tot (nameP C.ts) false (p + 1)).bind fun v0 q0 => (paramsP C.ts C.s.size f q0).bind fun v1 q1 => (takeP C.ts C.s.size [61] q1).bind fun v2 q2 => (ex q2).bind fun v3 q3 => (takeP C.ts C.s.size [59] q3).bind fun v4 q4 => .ok (.mk 3 v0 [v1, v3] (BA : Int)) q4) := by
        show R = _
        have n0 : isT C.ts p wModule = false := by
          have := (show (!false && isT C.ts p wModule) = false from dC.out)
          simpa using this
        rw [HT.out, tot_go, stmtO, if_neg (by rw [n0]; decide), if_pos (show isT C.ts p wFunction = true from HI.out), BC.out]
        rfl
      clear HT
      obtain ⟨gK, hK, kH, iK⟩ : YB.cell? ⟨C.pb, 2, none⟩ = some (.int .i64 p) ∧ YB.frozen? ⟨C.pb, 2, none⟩ = false ∧ p < C.ts.length ∧ C.ts.length ≤ 4096 := ⟨VA.out.st.cellsF.2.2.1, VA.out.st.cellsF.2.2.2.2.1, isT_lt HI.out, VA.out.st.len⟩
      have jK : IntKind.i64.wrap ((p : Int) + 1) = (p : Int) + 1 := IntWalk.i64_in _ (by omega)
      have kK := hj kH
      clear kH iK
      go_upto_region 33 with (fail)
      clear gK hK jK
      have WD : Hid (NSt C w (World.setCell YB ⟨C.pb, 2, none⟩ (.int .i64 ((p : Int) + 1))) false (p + 1) [(AA.heap.size, .int .i64 0, .string ⟨#[]⟩, .slice none 0 0, .int .i64 BA), zB w.heap.size]) := hj (VA.out.step (q := p + 1) kK.out)
      clear VA
      generalize World.setCell YB ⟨C.pb, 2, none⟩ (.int .i64 ((p : Int) + 1)) = YJ at WD ⊢
      obtain ⟨n0, n1, n2, n3, nf⟩ : BoxF YJ (AA.heap.size) (.int .i64 0) (.string ⟨#[]⟩) (.slice none 0 0) (.int .i64 BA) := WD.out.at_ (List.Mem.head _)
      go_upto_region 34 with (fail)
      clear n0 n1 n2 n3 nf
      have XD : Hid (NSt C w (World.setCell YJ ⟨AA.heap.size, 0, none⟩ (.int .i64 3)) false (p + 1) [(AA.heap.size, .int .i64 3, .string ⟨#[]⟩, .slice none 0 0, .int .i64 BA), zB w.heap.size]) := hj (NSt.set0 (pre := []) WD.out)
      clear WD
      generalize World.setCell YJ ⟨AA.heap.size, 0, none⟩ (.int .i64 3) = NL at XD ⊢
      have lK := rnameq_any C false (p + 1) NL XD.out.st
      go_wp2_with fail
      (with_reducible refine lK.mono ?_)
      clear lK
      rintro e aF ⟨ZJ, aJ, NA, lH, rfl, mH, nH⟩
      have sE : Hid (NSt C w aF ZJ aJ [(AA.heap.size, .int .i64 3, .string ⟨#[]⟩, .slice none 0 0, .int .i64 BA), zB w.heap.size]) := hj (XD.out.call mH nH)
      clear XD nH mH
      have KM : Hid (R = (Tot (paramsP C.ts C.s.size f) ZJ aJ).bind fun v1 q1 => (takeP C.ts C.s.size [61] q1).bind fun v2 q2 => (ex q2).bind fun v3 q3 => (takeP C.ts C.s.size [59] q3).bind fun v4 q4 => .ok (.mk 3 NA [v1, v3] (BA : Int)) q4) := by
        show R = _
        rw [RM.out, lH.bind, ← tot_bind]
      clear lH RM
      obtain ⟨n0, n1, n2, n3, nf⟩ : BoxF aF (AA.heap.size) (.int .i64 3) (.string ⟨#[]⟩) (.slice none 0 0) (.int .i64 BA) := sE.out.at_ (List.Mem.head _)
      go_upto_region 35 with (fail)
      clear n0 n1 n2 n3 nf
      have VC : Hid (NSt C w (World.setCell aF ⟨AA.heap.size, 1, none⟩ (.string ⟨NA.toArray⟩)) ZJ aJ [(AA.heap.size, .int .i64 3, .string ⟨NA.toArray⟩, .slice none 0 0, .int .i64 BA), zB w.heap.size]) := hj (NSt.set1 (pre := []) sE.out)
      clear sE
      generalize World.setCell aF ⟨AA.heap.size, 1, none⟩ (.string ⟨NA.toArray⟩) = kL at VC ⊢
      have bJ := rparams_any C f hf _ _ _ VC.out.st (fun e => HNE.out (by rw [KM.out, e]; rfl))
      unfold RFinN at bJ
      go_wp2_with fail
      (with_reducible refine bJ.mono ?_)
      clear bJ
      rintro e hA ⟨bF, tE, iA, jA, aA, KA, tA, eA, oH, rfl, pH, qH, rH⟩
      have sH : Hid (NSt C w hA bF tE [(AA.heap.size, .int .i64 3, .string ⟨NA.toArray⟩, .slice none 0 0, .int .i64 BA), zB w.heap.size]) := hj (VC.out.call qH rH)
      have tH : Hid (Rw (AA.heap.size + 1) hA [AA.heap.size, w.heap.size] aA tA) := hj (VC.out.row (VC.out.lt _ (List.Mem.head _)) pH)
      clear VC rH qH pH
      have SM : Hid (R = (Tot (takeP C.ts C.s.size [61]) bF tE).bind fun v2 q2 => (ex q2).bind fun v3 q3 => (takeP C.ts C.s.size [59] q3).bind fun v4 q4 => .ok (.mk 3 NA [(.mk iA jA aA KA), v3] (BA : Int)) q4) := by
        show R = _
        rw [KM.out, oH.bind, ← tot_bind]
      clear oH KM
      go_upto_region 36 with (fail)
      have WC : Hid (NSt C w (World.alloc hA (.cells #[.int .i64 iA, .string ⟨jA.toArray⟩, .slice tA aA.length eA, .int .i64 KA] 53)) bF tE [nB hA.heap.size iA jA tA aA eA KA, (AA.heap.size, .int .i64 3, .string ⟨NA.toArray⟩, .slice none 0 0, .int .i64 BA), zB w.heap.size]) := hj (sH.out.alloc _ _ _ _)
      have vE : Hid (Rw (AA.heap.size + 1) (World.alloc hA (.cells #[.int .i64 iA, .string ⟨jA.toArray⟩, .slice tA aA.length eA, .int .i64 KA] 53)) [hA.heap.size, AA.heap.size, w.heap.size] aA tA) := hj (tH.out.alloc _)
      clear sH tH
      generalize World.alloc hA (.cells #[.int .i64 iA, .string ⟨jA.toArray⟩, .slice tA aA.length eA, .int .i64 KA] 53) = OL at WC vE ⊢
      have cJ := rtake_any C bF tE [61] OL WC.out.st
      obtain ⟨ZL, ED⟩ : ∃ pl, placeT C.ts C.s.size tE = pl := ⟨_, rfl⟩
      rw [ED] at cJ
      have dJ := hj ED
      clear ED
      go_wp2_with fail
      (with_reducible refine cJ.mono ?_)
      clear cJ
      rintro e mK ⟨nK, oK, lL, vH, rfl, wH, wE⟩
      have hM643' := vH.place
      rw [dJ.out] at hM643'
      clear vH
      have IC : Hid (NSt C w mK nK oK [nB hA.heap.size iA jA tA aA eA KA, (AA.heap.size, .int .i64 3, .string ⟨NA.toArray⟩, .slice none 0 0, .int .i64 BA), zB w.heap.size]) := hj (WC.out.call wH wE)
      have xH : Hid (Rw (AA.heap.size + 1) mK [hA.heap.size, AA.heap.size, w.heap.size] aA tA) := hj (vE.out.call (Nat.lt_succ_of_le (Nat.le_of_lt (Nat.lt_of_lt_of_le WC.out.pb (show w.heap.size ≤ AA.heap.size from (WC.out.bx _ (List.Mem.tail _ (List.Mem.head _))).1)))) wE)
      clear WC vE wE wH
      have eJ : Hid (R = (Tot (ex) nK oK).bind fun v3 q3 => (takeP C.ts C.s.size [59] q3).bind fun v4 q4 => .ok (.mk 3 NA [(.mk iA jA aA KA), v3] (BA : Int)) q4) := by
        show R = _
        rw [SM.out, hM643'.bind, ← tot_bind]
      clear hM643' SM
      have fJ := HHX.out _ _ _ IC.out.st (fun e => HNE.out (by rw [eJ.out, e]; rfl)) HEX.out
      unfold RFinN at fJ
      go_wp2_with fail
      (with_reducible refine fJ.mono ?_)
      clear fJ
      rintro e OB ⟨cF, xE, HB, IB, mA, WA, XB, nA, yH, rfl, zH, AI, yE⟩
      have BI : Hid (NSt C w OB cF xE [nB hA.heap.size iA jA tA aA eA KA, (AA.heap.size, .int .i64 3, .string ⟨NA.toArray⟩, .slice none 0 0, .int .i64 BA), zB w.heap.size]) := hj (IC.out.call AI yE)
      have CI : Hid (Rw (AA.heap.size + 1) OB [hA.heap.size, AA.heap.size, w.heap.size] aA tA) := hj (xH.out.call (Nat.lt_succ_of_le (Nat.le_of_lt (Nat.lt_of_lt_of_le IC.out.pb (show w.heap.size ≤ AA.heap.size from (IC.out.bx _ (List.Mem.tail _ (List.Mem.head _))).1)))) yE)
      have DI : Hid (Rw (AA.heap.size + 1) OB [hA.heap.size, AA.heap.size, w.heap.size] mA XB) := hj (IC.out.row (IC.out.lt _ (List.Mem.tail _ (List.Mem.head _))) zH)
      clear IC xH yE AI zH
      have pK : Hid (R = (Tot (takeP C.ts C.s.size [59]) cF xE).bind fun v4 q4 => .ok (.mk 3 NA [(.mk iA jA aA KA), (.mk HB IB mA WA)] (BA : Int)) q4) := by
        show R = _
        rw [eJ.out, yH.bind, ← tot_bind]
      clear yH eJ
      go_upto_region 38 with (fail)
      have wB : Hid (NSt C w (World.alloc OB (.cells #[.int .i64 HB, .string ⟨IB.toArray⟩, .slice XB mA.length nA, .int .i64 WA] 53)) cF xE [nB OB.heap.size HB IB XB mA nA WA, nB hA.heap.size iA jA tA aA eA KA, (AA.heap.size, .int .i64 3, .string ⟨NA.toArray⟩, .slice none 0 0, .int .i64 BA), zB w.heap.size]) := hj (BI.out.alloc _ _ _ _)
      have zE : Hid (Rw (AA.heap.size + 1) (World.alloc OB (.cells #[.int .i64 HB, .string ⟨IB.toArray⟩, .slice XB mA.length nA, .int .i64 WA] 53)) [OB.heap.size, hA.heap.size, AA.heap.size, w.heap.size] aA tA) := hj (CI.out.alloc _)
      have AF : Hid (Rw (AA.heap.size + 1) (World.alloc OB (.cells #[.int .i64 HB, .string ⟨IB.toArray⟩, .slice XB mA.length nA, .int .i64 WA] 53)) [OB.heap.size, hA.heap.size, AA.heap.size, w.heap.size] mA XB) := hj (DI.out.alloc _)
      clear BI CI DI
      generalize World.alloc OB (.cells #[.int .i64 HB, .string ⟨IB.toArray⟩, .slice XB mA.length nA, .int .i64 WA] 53) = PL at wB zE AF ⊢
      have gJ := rtake_any C cF xE [59] PL wB.out.st
      obtain ⟨aL, FD⟩ : ∃ pl, placeT C.ts C.s.size xE = pl := ⟨_, rfl⟩
      rw [FD] at gJ
      have hJ := hj FD
      clear FD
      go_wp2_with fail
      (with_reducible refine gJ.mono ?_)
      clear gJ
      rintro e kA ⟨BF, CF, mL, EI, rfl, FI, YD⟩
      have hM675' := EI.place
      rw [hJ.out] at hM675'
      clear EI
      have xB : Hid (NSt C w kA BF CF [nB OB.heap.size HB IB XB mA nA WA, nB hA.heap.size iA jA tA aA eA KA, (AA.heap.size, .int .i64 3, .string ⟨NA.toArray⟩, .slice none 0 0, .int .i64 BA), zB w.heap.size]) := hj (wB.out.call FI YD)
      have GI : Hid (Rw (AA.heap.size + 1) kA [OB.heap.size, hA.heap.size, AA.heap.size, w.heap.size] aA tA) := hj (zE.out.call (Nat.lt_succ_of_le (Nat.le_of_lt (Nat.lt_of_lt_of_le wB.out.pb (show w.heap.size ≤ AA.heap.size from (wB.out.bx _ (List.Mem.tail _ (List.Mem.tail _ (List.Mem.head _)))).1)))) YD)
      have II : Hid (Rw (AA.heap.size + 1) kA [OB.heap.size, hA.heap.size, AA.heap.size, w.heap.size] mA XB) := hj (AF.out.call (Nat.lt_succ_of_le (Nat.le_of_lt (Nat.lt_of_lt_of_le wB.out.pb (show w.heap.size ≤ AA.heap.size from (wB.out.bx _ (List.Mem.tail _ (List.Mem.tail _ (List.Mem.head _)))).1)))) YD)
      clear wB zE AF YD FI
      have HM : Hid (Mt R BF CF (.mk 3 NA [(.mk iA jA aA KA), (.mk HB IB mA WA)] (BA : Int))) := by
        show Mt _ _ _ _
        rw [pK.out, hM675'.bind]
        exact Mt.ret _ _ _
      clear hM675' pK
      obtain ⟨u00, u01, u02, u03, u0f⟩ : BoxF kA (hA.heap.size) (.int .i64 iA) (.string ⟨jA.toArray⟩) (.slice tA aA.length eA) (.int .i64 KA) := xB.out.at_ (List.Mem.tail _ (List.Mem.head _))
      obtain ⟨u10, u11, u12, u13, u1f⟩ : BoxF kA (OB.heap.size) (.int .i64 HB) (.string ⟨IB.toArray⟩) (.slice XB mA.length nA) (.int .i64 WA) := xB.out.at_ (List.Mem.head _)
      obtain ⟨n0, n1, n2, n3, nf⟩ : BoxF kA (AA.heap.size) (.int .i64 3) (.string ⟨NA.toArray⟩) (.slice none 0 0) (.int .i64 BA) := xB.out.at_ (List.Mem.tail _ (List.Mem.tail _ (List.Mem.head _)))
      have qL := fun o => al_cell n0 o
      have rL := fun o => al_cell n1 o
      have sL := fun o => al_cell n2 o
      have tL := fun o => al_cell n3 o
      have naf : ∀ ob o, (World.alloc kA ob).frozen? ⟨AA.heap.size, o, none⟩ = false := fun ob o => ((xB.out.bx _ (List.Mem.tail _ (List.Mem.tail _ (List.Mem.head _)))).2.alloc ob).facts.2.2.2.2 o
      go_upto_region 63 with (fail)
      clear n0 n1 n2 n3 nf u00 u01 u02 u03 u0f u10 u11 u12 u13 u1f
      clear qL rL sL tL naf
      have JI : Hid (Rw (AA.heap.size + 1) (World.alloc kA (.cells #[.int .i64 iA, .string ⟨jA.toArray⟩, .slice tA aA.length eA, .int .i64 KA, .int .i64 HB, .string ⟨IB.toArray⟩, .slice XB mA.length nA, .int .i64 WA] 53)) [OB.heap.size, hA.heap.size, AA.heap.size, w.heap.size] [(.mk iA jA aA KA), (.mk HB IB mA WA)] (some ⟨kA.heap.size, 0, none⟩)) := hj (Rw.two xB.out (xB.out.lt _ (List.Mem.tail _ (List.Mem.tail _ (List.Mem.head _)))) GI.out II.out)
      have KI : Hid (NSt C w (World.alloc kA (.cells #[.int .i64 iA, .string ⟨jA.toArray⟩, .slice tA aA.length eA, .int .i64 KA, .int .i64 HB, .string ⟨IB.toArray⟩, .slice XB mA.length nA, .int .i64 WA] 53)) BF CF [nB OB.heap.size HB IB XB mA nA WA, nB hA.heap.size iA jA tA aA eA KA, (AA.heap.size, .int .i64 3, .string ⟨NA.toArray⟩, .slice none 0 0, .int .i64 BA), zB w.heap.size]) := hj (xB.out.blk _)
      clear xB GI II
      have XC : Hid (NSt C w (World.setCell (World.alloc kA (.cells #[.int .i64 iA, .string ⟨jA.toArray⟩, .slice tA aA.length eA, .int .i64 KA, .int .i64 HB, .string ⟨IB.toArray⟩, .slice XB mA.length nA, .int .i64 WA] 53)) ⟨AA.heap.size, 2, none⟩ (.slice (some ⟨kA.heap.size, 0, none⟩) 2 2)) BF CF [nB OB.heap.size HB IB XB mA nA WA, nB hA.heap.size iA jA tA aA eA KA, (AA.heap.size, .int .i64 3, .string ⟨NA.toArray⟩, .slice (some ⟨kA.heap.size, 0, none⟩) 2 2, .int .i64 BA), zB w.heap.size]) := hj (NSt.set2 (pre := [nB OB.heap.size HB IB XB mA nA WA, nB hA.heap.size iA jA tA aA eA KA]) KI.out)
      have DF : Hid (Rw (AA.heap.size + 1) (World.setCell (World.alloc kA (.cells #[.int .i64 iA, .string ⟨jA.toArray⟩, .slice tA aA.length eA, .int .i64 KA, .int .i64 HB, .string ⟨IB.toArray⟩, .slice XB mA.length nA, .int .i64 WA] 53)) ⟨AA.heap.size, 2, none⟩ (.slice (some ⟨kA.heap.size, 0, none⟩) 2 2)) [OB.heap.size, hA.heap.size, AA.heap.size, w.heap.size] [(.mk iA jA aA KA), (.mk HB IB mA WA)] (some ⟨kA.heap.size, 0, none⟩)) := hj (JI.out.set (List.Mem.tail _ (List.Mem.tail _ (List.Mem.head _))))
      clear KI JI
      generalize World.setCell (World.alloc kA (.cells #[.int .i64 iA, .string ⟨jA.toArray⟩, .slice tA aA.length eA, .int .i64 KA, .int .i64 HB, .string ⟨IB.toArray⟩, .slice XB mA.length nA, .int .i64 WA] 53)) ⟨AA.heap.size, 2, none⟩ (.slice (some ⟨kA.heap.size, 0, none⟩) 2 2) = EF at XC DF ⊢
      obtain ⟨n0, n1, n2, n3, nf⟩ : BoxF EF (AA.heap.size) (.int .i64 3) (.string ⟨NA.toArray⟩) (.slice (some ⟨kA.heap.size, 0, none⟩) 2 2) (.int .i64 BA) := XC.out.at_ (List.Mem.tail _ (List.Mem.tail _ (List.Mem.head _)))
      obtain ⟨r0, r1, r2, r3, rf⟩ : BoxF EF (w.heap.size) (.int .i64 0) (.string ⟨#[]⟩) (.slice none 0 0) (.int .i64 0) := XC.out.at_ (List.Mem.tail _ (List.Mem.tail _ (List.Mem.tail _ (List.Mem.head _))))
      have LI : Hid (NSt C w (S4 EF w.heap.size (.int .i64 3) (.string ⟨NA.toArray⟩) (.slice (some ⟨kA.heap.size, 0, none⟩) 2 2) (.int .i64 BA)) BF CF [nB OB.heap.size HB IB XB mA nA WA, nB hA.heap.size iA jA tA aA eA KA, (AA.heap.size, .int .i64 3, .string ⟨NA.toArray⟩, .slice (some ⟨kA.heap.size, 0, none⟩) 2 2, .int .i64 BA), (w.heap.size, .int .i64 3, .string ⟨NA.toArray⟩, .slice (some ⟨kA.heap.size, 0, none⟩) 2 2, .int .i64 BA)]) := hj (NSt.set4 (pre := [nB OB.heap.size HB IB XB mA nA WA, nB hA.heap.size iA jA tA aA eA KA, (AA.heap.size, .int .i64 3, .string ⟨NA.toArray⟩, .slice (some ⟨kA.heap.size, 0, none⟩) 2 2, .int .i64 BA)]) XC.out)
      have MI : Hid (Rw (AA.heap.size + 1) (S4 EF w.heap.size (.int .i64 3) (.string ⟨NA.toArray⟩) (.slice (some ⟨kA.heap.size, 0, none⟩) 2 2) (.int .i64 BA)) [OB.heap.size, hA.heap.size, AA.heap.size, w.heap.size] [(.mk iA jA aA KA), (.mk HB IB mA WA)] (some ⟨kA.heap.size, 0, none⟩)) := hj (DF.out.set4 (List.Mem.tail _ (List.Mem.tail _ (List.Mem.tail _ (List.Mem.head _)))))
      have HW : Hid (w.heap.size ≤ (AA.heap.size + 1)) := hj (Nat.le_succ_of_le (show w.heap.size ≤ AA.heap.size from (XC.out.bx _ (List.Mem.tail _ (List.Mem.tail _ (List.Mem.head _)))).1))
      have HF : Hid (RFinN C w (stmtO C.ts C.s.size ex st f) false p (.returned (.agg #[.int .i64 3, .string ⟨NA.toArray⟩, .slice (some ⟨kA.heap.size, 0, none⟩) 2 2, .int .i64 BA])) (S4 EF w.heap.size (.int .i64 3) (.string ⟨NA.toArray⟩) (.slice (some ⟨kA.heap.size, 0, none⟩) 2 2) (.int .i64 BA))) := hj (NSt.fin (n := NA) (l := [(.mk iA jA aA KA), (.mk HB IB mA WA)]) LI.out HW.out (by rw [HR.out]; exact HM.out) MI.out)
      clear XC LI HW HM MI DF
      go_wp2_with fail
      exact ret_node rfl rfl rfl (by simp [go_sem, r0]) (by simp [go_sem, r1]) (by simp [go_sem, r2]) (by simp [go_sem, r3]) HF.out
  · obtain ⟨rfl, hHI⟩ : b = false ∧ isT C.ts p [109, 111, 100, 117, 108, 101] = true := by
      have := dC.out
      cases b <;> simp_all
    have HI := hj hHI
    clear hHI
    have qK : Hid (R = (Tot (nameP C.ts) false (p + 1)).bind fun v0 q0 => (paramsP C.ts C.s.size f q0).bind fun v1 q1 => (blockO C.ts C.s.size st f q1).bind fun v2 q2 => .ok (.mk 2 v0 [v1, v2] (BA : Int)) q2) := by
      show R = _
      rw [HT.out, tot_go, stmtO, if_pos (show isT C.ts p wModule = true from HI.out), BC.out]
      rfl
    clear HT
    obtain ⟨rK, sK, NI, tK⟩ : YB.cell? ⟨C.pb, 2, none⟩ = some (.int .i64 p) ∧ YB.frozen? ⟨C.pb, 2, none⟩ = false ∧ p < C.ts.length ∧ C.ts.length ≤ 4096 := ⟨VA.out.st.cellsF.2.2.1, VA.out.st.cellsF.2.2.2.2.1, isT_lt HI.out, VA.out.st.len⟩
    have vK : IntKind.i64.wrap ((p : Int) + 1) = (p : Int) + 1 := IntWalk.i64_in _ (by omega)
    have wK := hj NI
    clear NI tK
    go_upto_region 26 with (fail)
    clear rK sK vK
    have ZD : Hid (NSt C w (World.setCell YB ⟨C.pb, 2, none⟩ (.int .i64 ((p : Int) + 1))) false (p + 1) [(AA.heap.size, .int .i64 0, .string ⟨#[]⟩, .slice none 0 0, .int .i64 BA), zB w.heap.size]) := hj (VA.out.step (q := p + 1) wK.out)
    clear VA
    generalize World.setCell YB ⟨C.pb, 2, none⟩ (.int .i64 ((p : Int) + 1)) = iJ at ZD ⊢
    obtain ⟨n0, n1, n2, n3, nf⟩ : BoxF iJ (AA.heap.size) (.int .i64 0) (.string ⟨#[]⟩) (.slice none 0 0) (.int .i64 BA) := ZD.out.at_ (List.Mem.head _)
    go_upto_region 27 with (fail)
    clear n0 n1 n2 n3 nf
    have aD : Hid (NSt C w (World.setCell iJ ⟨AA.heap.size, 0, none⟩ (.int .i64 2)) false (p + 1) [(AA.heap.size, .int .i64 2, .string ⟨#[]⟩, .slice none 0 0, .int .i64 BA), zB w.heap.size]) := hj (NSt.set0 (pre := []) ZD.out)
    clear ZD
    generalize World.setCell iJ ⟨AA.heap.size, 0, none⟩ (.int .i64 2) = QL at aD ⊢
    have xK := rnameq_any C false (p + 1) QL aD.out.st
    go_wp2_with fail
    (with_reducible refine xK.mono ?_)
    clear xK
    rintro e dF ⟨jJ, kJ, ZA, OI, rfl, PI, QI⟩
    have FF : Hid (NSt C w dF jJ kJ [(AA.heap.size, .int .i64 2, .string ⟨#[]⟩, .slice none 0 0, .int .i64 BA), zB w.heap.size]) := hj (aD.out.call PI QI)
    clear aD QI PI
    have lJ : Hid (R = (Tot (paramsP C.ts C.s.size f) jJ kJ).bind fun v1 q1 => (blockO C.ts C.s.size st f q1).bind fun v2 q2 => .ok (.mk 2 ZA [v1, v2] (BA : Int)) q2) := by
      show R = _
      rw [qK.out, OI.bind, ← tot_bind]
    clear OI qK
    obtain ⟨n0, n1, n2, n3, nf⟩ : BoxF dF (AA.heap.size) (.int .i64 2) (.string ⟨#[]⟩) (.slice none 0 0) (.int .i64 BA) := FF.out.at_ (List.Mem.head _)
    go_upto_region 28 with (fail)
    clear n0 n1 n2 n3 nf
    have YC : Hid (NSt C w (World.setCell dF ⟨AA.heap.size, 1, none⟩ (.string ⟨ZA.toArray⟩)) jJ kJ [(AA.heap.size, .int .i64 2, .string ⟨ZA.toArray⟩, .slice none 0 0, .int .i64 BA), zB w.heap.size]) := hj (NSt.set1 (pre := []) FF.out)
    clear FF
    generalize World.setCell dF ⟨AA.heap.size, 1, none⟩ (.string ⟨ZA.toArray⟩) = nL at YC ⊢
    have mJ := rparams_any C f hf _ _ _ YC.out.st (fun e => HNE.out (by rw [lJ.out, e]; rfl))
    unfold RFinN at mJ
    go_wp2_with fail
    (with_reducible refine mJ.mono ?_)
    clear mJ
    rintro e PB ⟨nJ, oJ, JB, KB, lA, XA, UB, oA, RI, rfl, SI, TI, UI⟩
    have VI : Hid (NSt C w PB nJ oJ [(AA.heap.size, .int .i64 2, .string ⟨ZA.toArray⟩, .slice none 0 0, .int .i64 BA), zB w.heap.size]) := hj (YC.out.call TI UI)
    have WI : Hid (Rw (AA.heap.size + 1) PB [AA.heap.size, w.heap.size] lA UB) := hj (YC.out.row (YC.out.lt _ (List.Mem.head _)) SI)
    clear YC UI TI SI
    have pJ : Hid (R = (Tot (blockO C.ts C.s.size st f) nJ oJ).bind fun v2 q2 => .ok (.mk 2 ZA [(.mk JB KB lA XA), v2] (BA : Int)) q2) := by
      show R = _
      rw [lJ.out, RI.bind, ← tot_bind]
    clear RI lJ
    go_upto_region 29 with (fail)
    have yB : Hid (NSt C w (World.alloc PB (.cells #[.int .i64 JB, .string ⟨KB.toArray⟩, .slice UB lA.length oA, .int .i64 XA] 53)) nJ oJ [nB PB.heap.size JB KB UB lA oA XA, (AA.heap.size, .int .i64 2, .string ⟨ZA.toArray⟩, .slice none 0 0, .int .i64 BA), zB w.heap.size]) := hj (VI.out.alloc _ _ _ _)
    have GF : Hid (Rw (AA.heap.size + 1) (World.alloc PB (.cells #[.int .i64 JB, .string ⟨KB.toArray⟩, .slice UB lA.length oA, .int .i64 XA] 53)) [PB.heap.size, AA.heap.size, w.heap.size] lA UB) := hj (WI.out.alloc _)
    clear VI WI
    generalize World.alloc PB (.cells #[.int .i64 JB, .string ⟨KB.toArray⟩, .slice UB lA.length oA, .int .i64 XA] 53) = oL at yB GF ⊢
    have qJ := rblock_any C st HHB.out f hf _ _ _ yB.out.st (fun e => HNE.out (by rw [pJ.out, e]; rfl))
    unfold RFinN at qJ
    go_wp2_with fail
    (with_reducible refine qJ.mono ?_)
    clear qJ
    rintro e cB ⟨dD, eD, VB, WB, LB, cA, hB, yA, XI, rfl, YI, ZI, IF⟩
    have aI : Hid (NSt C w cB dD eD [nB PB.heap.size JB KB UB lA oA XA, (AA.heap.size, .int .i64 2, .string ⟨ZA.toArray⟩, .slice none 0 0, .int .i64 BA), zB w.heap.size]) := hj (yB.out.call ZI IF)
    have bI : Hid (Rw (AA.heap.size + 1) cB [PB.heap.size, AA.heap.size, w.heap.size] lA UB) := hj (GF.out.call (Nat.lt_succ_of_le (Nat.le_of_lt (Nat.lt_of_lt_of_le yB.out.pb (show w.heap.size ≤ AA.heap.size from (yB.out.bx _ (List.Mem.tail _ (List.Mem.head _))).1)))) IF)
    have cI : Hid (Rw (AA.heap.size + 1) cB [PB.heap.size, AA.heap.size, w.heap.size] LB hB) := hj (yB.out.row (yB.out.lt _ (List.Mem.tail _ (List.Mem.head _))) YI)
    clear yB GF IF ZI YI
    have HM : Hid (Mt R dD eD (.mk 2 ZA [(.mk JB KB lA XA), (.mk VB WB LB cA)] (BA : Int))) := by
      show Mt _ _ _ _
      rw [pJ.out, XI.bind]
      exact Mt.ret _ _ _
    clear XI pJ
    go_upto_region 30 with (fail)
    have rB : Hid (NSt C w (World.alloc cB (.cells #[.int .i64 VB, .string ⟨WB.toArray⟩, .slice hB LB.length yA, .int .i64 cA] 53)) dD eD [nB cB.heap.size VB WB hB LB yA cA, nB PB.heap.size JB KB UB lA oA XA, (AA.heap.size, .int .i64 2, .string ⟨ZA.toArray⟩, .slice none 0 0, .int .i64 BA), zB w.heap.size]) := hj (aI.out.alloc _ _ _ _)
    have JF : Hid (Rw (AA.heap.size + 1) (World.alloc cB (.cells #[.int .i64 VB, .string ⟨WB.toArray⟩, .slice hB LB.length yA, .int .i64 cA] 53)) [cB.heap.size, PB.heap.size, AA.heap.size, w.heap.size] lA UB) := hj (bI.out.alloc _)
    have KF : Hid (Rw (AA.heap.size + 1) (World.alloc cB (.cells #[.int .i64 VB, .string ⟨WB.toArray⟩, .slice hB LB.length yA, .int .i64 cA] 53)) [cB.heap.size, PB.heap.size, AA.heap.size, w.heap.size] LB hB) := hj (cI.out.alloc _)
    clear aI bI cI
    generalize World.alloc cB (.cells #[.int .i64 VB, .string ⟨WB.toArray⟩, .slice hB LB.length yA, .int .i64 cA] 53) = CB at rB JF KF ⊢
    obtain ⟨u00, u01, u02, u03, u0f⟩ : BoxF CB (PB.heap.size) (.int .i64 JB) (.string ⟨KB.toArray⟩) (.slice UB lA.length oA) (.int .i64 XA) := rB.out.at_ (List.Mem.tail _ (List.Mem.head _))
    obtain ⟨u10, u11, u12, u13, u1f⟩ : BoxF CB (cB.heap.size) (.int .i64 VB) (.string ⟨WB.toArray⟩) (.slice hB LB.length yA) (.int .i64 cA) := rB.out.at_ (List.Mem.head _)
    obtain ⟨n0, n1, n2, n3, nf⟩ : BoxF CB (AA.heap.size) (.int .i64 2) (.string ⟨ZA.toArray⟩) (.slice none 0 0) (.int .i64 BA) := rB.out.at_ (List.Mem.tail _ (List.Mem.tail _ (List.Mem.head _)))
    have qL := fun o => al_cell n0 o
    have rL := fun o => al_cell n1 o
    have sL := fun o => al_cell n2 o
    have tL := fun o => al_cell n3 o
    have naf : ∀ ob o, (World.alloc CB ob).frozen? ⟨AA.heap.size, o, none⟩ = false := fun ob o => ((rB.out.bx _ (List.Mem.tail _ (List.Mem.tail _ (List.Mem.head _)))).2.alloc ob).facts.2.2.2.2 o
    go_upto_region 63 with (fail)
    clear n0 n1 n2 n3 nf u00 u01 u02 u03 u0f u10 u11 u12 u13 u1f
    clear qL rL sL tL naf
    have dI : Hid (Rw (AA.heap.size + 1) (World.alloc CB (.cells #[.int .i64 JB, .string ⟨KB.toArray⟩, .slice UB lA.length oA, .int .i64 XA, .int .i64 VB, .string ⟨WB.toArray⟩, .slice hB LB.length yA, .int .i64 cA] 53)) [cB.heap.size, PB.heap.size, AA.heap.size, w.heap.size] [(.mk JB KB lA XA), (.mk VB WB LB cA)] (some ⟨CB.heap.size, 0, none⟩)) := hj (Rw.two rB.out (rB.out.lt _ (List.Mem.tail _ (List.Mem.tail _ (List.Mem.head _)))) JF.out KF.out)
    have eI : Hid (NSt C w (World.alloc CB (.cells #[.int .i64 JB, .string ⟨KB.toArray⟩, .slice UB lA.length oA, .int .i64 XA, .int .i64 VB, .string ⟨WB.toArray⟩, .slice hB LB.length yA, .int .i64 cA] 53)) dD eD [nB cB.heap.size VB WB hB LB yA cA, nB PB.heap.size JB KB UB lA oA XA, (AA.heap.size, .int .i64 2, .string ⟨ZA.toArray⟩, .slice none 0 0, .int .i64 BA), zB w.heap.size]) := hj (rB.out.blk _)
    clear rB JF KF
    have ZC : Hid (NSt C w (World.setCell (World.alloc CB (.cells #[.int .i64 JB, .string ⟨KB.toArray⟩, .slice UB lA.length oA, .int .i64 XA, .int .i64 VB, .string ⟨WB.toArray⟩, .slice hB LB.length yA, .int .i64 cA] 53)) ⟨AA.heap.size, 2, none⟩ (.slice (some ⟨CB.heap.size, 0, none⟩) 2 2)) dD eD [nB cB.heap.size VB WB hB LB yA cA, nB PB.heap.size JB KB UB lA oA XA, (AA.heap.size, .int .i64 2, .string ⟨ZA.toArray⟩, .slice (some ⟨CB.heap.size, 0, none⟩) 2 2, .int .i64 BA), zB w.heap.size]) := hj (NSt.set2 (pre := [nB cB.heap.size VB WB hB LB yA cA, nB PB.heap.size JB KB UB lA oA XA]) eI.out)
    have LF : Hid (Rw (AA.heap.size + 1) (World.setCell (World.alloc CB (.cells #[.int .i64 JB, .string ⟨KB.toArray⟩, .slice UB lA.length oA, .int .i64 XA, .int .i64 VB, .string ⟨WB.toArray⟩, .slice hB LB.length yA, .int .i64 cA] 53)) ⟨AA.heap.size, 2, none⟩ (.slice (some ⟨CB.heap.size, 0, none⟩) 2 2)) [cB.heap.size, PB.heap.size, AA.heap.size, w.heap.size] [(.mk JB KB lA XA), (.mk VB WB LB cA)] (some ⟨CB.heap.size, 0, none⟩)) := hj (dI.out.set (List.Mem.tail _ (List.Mem.tail _ (List.Mem.head _))))
    clear eI dI
    generalize World.setCell (World.alloc CB (.cells #[.int .i64 JB, .string ⟨KB.toArray⟩, .slice UB lA.length oA, .int .i64 XA, .int .i64 VB, .string ⟨WB.toArray⟩, .slice hB LB.length yA, .int .i64 cA] 53)) ⟨AA.heap.size, 2, none⟩ (.slice (some ⟨CB.heap.size, 0, none⟩) 2 2) = MF at ZC LF ⊢
    obtain ⟨n0, n1, n2, n3, nf⟩ : BoxF MF (AA.heap.size) (.int .i64 2) (.string ⟨ZA.toArray⟩) (.slice (some ⟨CB.heap.size, 0, none⟩) 2 2) (.int .i64 BA) := ZC.out.at_ (List.Mem.tail _ (List.Mem.tail _ (List.Mem.head _)))
    obtain ⟨r0, r1, r2, r3, rf⟩ : BoxF MF (w.heap.size) (.int .i64 0) (.string ⟨#[]⟩) (.slice none 0 0) (.int .i64 0) := ZC.out.at_ (List.Mem.tail _ (List.Mem.tail _ (List.Mem.tail _ (List.Mem.head _))))
    have fI : Hid (NSt C w (S4 MF w.heap.size (.int .i64 2) (.string ⟨ZA.toArray⟩) (.slice (some ⟨CB.heap.size, 0, none⟩) 2 2) (.int .i64 BA)) dD eD [nB cB.heap.size VB WB hB LB yA cA, nB PB.heap.size JB KB UB lA oA XA, (AA.heap.size, .int .i64 2, .string ⟨ZA.toArray⟩, .slice (some ⟨CB.heap.size, 0, none⟩) 2 2, .int .i64 BA), (w.heap.size, .int .i64 2, .string ⟨ZA.toArray⟩, .slice (some ⟨CB.heap.size, 0, none⟩) 2 2, .int .i64 BA)]) := hj (NSt.set4 (pre := [nB cB.heap.size VB WB hB LB yA cA, nB PB.heap.size JB KB UB lA oA XA, (AA.heap.size, .int .i64 2, .string ⟨ZA.toArray⟩, .slice (some ⟨CB.heap.size, 0, none⟩) 2 2, .int .i64 BA)]) ZC.out)
    have gI : Hid (Rw (AA.heap.size + 1) (S4 MF w.heap.size (.int .i64 2) (.string ⟨ZA.toArray⟩) (.slice (some ⟨CB.heap.size, 0, none⟩) 2 2) (.int .i64 BA)) [cB.heap.size, PB.heap.size, AA.heap.size, w.heap.size] [(.mk JB KB lA XA), (.mk VB WB LB cA)] (some ⟨CB.heap.size, 0, none⟩)) := hj (LF.out.set4 (List.Mem.tail _ (List.Mem.tail _ (List.Mem.tail _ (List.Mem.head _)))))
    have HW : Hid (w.heap.size ≤ (AA.heap.size + 1)) := hj (Nat.le_succ_of_le (show w.heap.size ≤ AA.heap.size from (ZC.out.bx _ (List.Mem.tail _ (List.Mem.tail _ (List.Mem.head _)))).1))
    have HF : Hid (RFinN C w (stmtO C.ts C.s.size ex st f) false p (.returned (.agg #[.int .i64 2, .string ⟨ZA.toArray⟩, .slice (some ⟨CB.heap.size, 0, none⟩) 2 2, .int .i64 BA])) (S4 MF w.heap.size (.int .i64 2) (.string ⟨ZA.toArray⟩) (.slice (some ⟨CB.heap.size, 0, none⟩) 2 2) (.int .i64 BA))) := hj (NSt.fin (n := ZA) (l := [(.mk JB KB lA XA), (.mk VB WB LB cA)]) fI.out HW.out (by rw [HR.out]; exact HM.out) gI.out)
    clear ZC fI HW HM gI LF
    go_wp2_with fail
    exact ret_node rfl rfl rfl (by simp [go_sem, r0]) (by simp [go_sem, r1]) (by simp [go_sem, r2]) (by simp [go_sem, r3]) HF.out
end Go.Proofs.YtpbkeamjdolpgaaGreatDoor
