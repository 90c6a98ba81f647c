/- The walks of the parser's add and block. A node that is being put together: what is known between two calls. -/
import Derived.Test.YtpbkeamjdolpgaaGreatDoorB03
import Derived.Deep.RegionHeld3
import Derived.Deep.RegionLaw
import Derived.Deep.RegionWith
import Derived.RegionDies
import Derived.Deep.AppendLies
namespace Go.Proofs.YtpbkeamjdolpgaaGreatDoor
open Go.RowKit Go.Lib Go.Shelf

theorem own_set4 {w : World} {base g n cap : Nat} {e : TypeId} {xs : List Value} {a b c d v0 v1 v2 v3 : Value} (h : w.ownsRow base e 4 (.slice (some ⟨g, 0, none⟩) (n + 1) cap) (n + 1) (xs ++ [a, b, c, d])) (hx : xs.length = n * 4) :
    ((((w.setCell ⟨g, n * 4, none⟩ v0).setCell ⟨g, n * 4 + 1, none⟩ v1).setCell ⟨g, n * 4 + 2, none⟩ v2).setCell ⟨g, n * 4 + 3, none⟩ v3).ownsRow base e 4 (.slice (some ⟨g, 0, none⟩) (n + 1) cap) (n + 1) (xs ++ [v0, v1, v2, v3]) := by
  obtain ⟨h1, h2⟩ := h
  rcases h2 with ⟨_, h0⟩ | ⟨g', cap', cur, hv, hb, hg, hn, hm, hs, ht⟩
  · omega
  · cases hv
    refine ⟨by simpa using h1, .inr ⟨g, cap, (((cur.setIfInBounds (n * 4) v0).setIfInBounds (n * 4 + 1) v1).setIfInBounds (n * 4 + 2) v2).setIfInBounds (n * 4 + 3) v3, rfl, hb, ?_, hn, hm, by simpa using hs, ?_⟩⟩
    · simp [World.setCell, Array.getElem?_modify, hg]
    · simp only [Array.toList_setIfInBounds, List.take_set, ht]
      simp [hx]
theorem own_top {w : World} {base g n cap : Nat} {e : TypeId} {xs : List Value} {a b c d : Value} (h : w.ownsRow base e 4 (.slice (some ⟨g, 0, none⟩) (n + 1) cap) (n + 1) (xs ++ [a, b, c, d])) (hx : xs.length = n * 4) :
    w.cell? ⟨g, n * 4, none⟩ = some a ∧ w.cell? ⟨g, n * 4 + 1, none⟩ = some b ∧ w.cell? ⟨g, n * 4 + 2, none⟩ = some c ∧ w.cell? ⟨g, n * 4 + 3, none⟩ = some d ∧ ∀ o, w.frozen? ⟨g, o, none⟩ = false := by
  have hc := h.cells (g := g) rfl
  have hf : ∀ o, w.frozen? ⟨g, o, none⟩ = false := by
    rcases h.2 with ⟨_, h0⟩ | ⟨g', cap', cur, hv, hb, hg, _⟩
    · omega
    · cases hv
      intro o
      simp [World.frozen?, hg]
  have hk : ∀ j u, [a, b, c, d][j]? = some u → w.cell? ⟨g, n * 4 + j, none⟩ = some u := fun j u hj => by
    have := hc (n * 4 + j) u (by rw [List.getElem?_append_right (by omega), hx, Nat.add_sub_cancel_left]; exact hj)
    rwa [Addr.add_lit, Nat.zero_add] at this
  exact ⟨hk 0 _ rfl, hk 1 _ rfl, hk 2 _ rfl, hk 3 _ rfl, hf⟩
/-- What is kept while a node is appended. -/
theorem keep_far {w w' : World} {row : Option Nat} {b : Nat} {v0 v1 v2 v3 : Value} (h : Box4 w b v0 v1 v2 v3) (hg : w.grownBy w' row) (hn : some b ≠ row) : Box4 w' b v0 v1 v2 v3 := (hg.block b h.lt hn).trans h
theorem Ow.belowB {b B : Nat} {w0 w w' : World} (h : Ow b w0 w) (k : Below B w w') (hB : w0.heap.size ≤ B) : Ow b w0 w' :=
  ⟨k.os.trans h.os, k.tape.trans h.tape, k.output.trans h.output, Nat.le_trans h.size k.size, fun i hi hn => (k.block i (by omega)).trans (h.block i hi hn)⟩

/-- What is known after the append. -/
theorem add_facts {w w6 : World} {bn H base g n cap : Nat} {e : TypeId} {va : Option Addr} {vc : Nat} {xs : List Value} {v0 v1 v3 k0 k1 k2 k3 z0 z1 z2 z3 : Value} (hB : Box4 w6 bn v0 v1 (.slice va n vc) v3) (hK : Box4 w6 H k0 k1 k2 k3) (ho : w6.ownsRow base e 4 (.slice (some ⟨g, 0, none⟩) (n + 1) cap) (n + 1) (xs ++ [z0, z1, z2, z3])) (_hgr : w.grownBy w6 (Value.slice va n vc).ownBlock) (hat : (Value.slice va n vc).ownBlock = some g ∨ g = w.heap.size) (_hlt : g < w6.heap.size) (hxl : xs.length = n * 4) (hsz : w.heap.size = H + 1 + 1) (hbH : bn < H) (hown : ∀ k, (Value.slice va n vc).ownBlock = some k → bn + 1 ≤ k ∧ k < H) :
    g ≠ bn ∧ bn ≠ g ∧ (w6.cell? ⟨g, n * 4, none⟩ = some z0 ∧ w6.cell? ⟨g, n * 4 + 1, none⟩ = some z1 ∧ w6.cell? ⟨g, n * 4 + 2, none⟩ = some z2 ∧ w6.cell? ⟨g, n * 4 + 3, none⟩ = some z3 ∧ ∀ o, w6.frozen? ⟨g, o, none⟩ = false) ∧
    (∀ v, (w6.setCell ⟨bn, 2, none⟩ v).cell? ⟨g, n * 4, none⟩ = some z0 ∧ (w6.setCell ⟨bn, 2, none⟩ v).cell? ⟨g, n * 4 + 1, none⟩ = some z1 ∧ (w6.setCell ⟨bn, 2, none⟩ v).cell? ⟨g, n * 4 + 2, none⟩ = some z2 ∧ (w6.setCell ⟨bn, 2, none⟩ v).cell? ⟨g, n * 4 + 3, none⟩ = some z3 ∧ ∀ o, (w6.setCell ⟨bn, 2, none⟩ v).frozen? ⟨g, o, none⟩ = false) ∧
    (w6.cell? ⟨bn, 2, none⟩ = some (.slice va n vc) ∧ ∀ o, w6.frozen? ⟨bn, o, none⟩ = false) ∧
    (∀ a b c d, ((((w6.setCell ⟨g, n * 4, none⟩ a).setCell ⟨g, n * 4 + 1, none⟩ b).setCell ⟨g, n * 4 + 2, none⟩ c).setCell ⟨g, n * 4 + 3, none⟩ d).cell? ⟨bn, 2, none⟩ = some (.slice va n vc) ∧ ∀ o, ((((w6.setCell ⟨g, n * 4, none⟩ a).setCell ⟨g, n * 4 + 1, none⟩ b).setCell ⟨g, n * 4 + 2, none⟩ c).setCell ⟨g, n * 4 + 3, none⟩ d).frozen? ⟨bn, o, none⟩ = false) ∧
    (w6.cell? ⟨H, 0, none⟩ = some k0 ∧ w6.cell? ⟨H, 1, none⟩ = some k1 ∧ w6.cell? ⟨H, 2, none⟩ = some k2 ∧ w6.cell? ⟨H, 3, none⟩ = some k3) ∧
    (∀ v, (w6.setCell ⟨bn, 2, none⟩ v).cell? ⟨H, 0, none⟩ = some k0 ∧ (w6.setCell ⟨bn, 2, none⟩ v).cell? ⟨H, 1, none⟩ = some k1 ∧ (w6.setCell ⟨bn, 2, none⟩ v).cell? ⟨H, 2, none⟩ = some k2 ∧ (w6.setCell ⟨bn, 2, none⟩ v).cell? ⟨H, 3, none⟩ = some k3) := by
  have hg1 : g ≠ bn := by
    rcases hat with h | h
    · have := hown g h; omega
    · omega
  obtain ⟨t0, t1, t2, t3, tf⟩ := own_top ho hxl
  obtain ⟨_, _, b2, _, bf⟩ := hB.facts
  obtain ⟨c0, c1, c2, c3, cf⟩ := hK.facts
  have hs : ∀ v, (w6.setCell ⟨bn, 2, none⟩ v).heap[g]? = w6.heap[g]? := fun v => Below.heap_setCell _ _ _ _ hg1
  have hs2 : ∀ v, (w6.setCell ⟨bn, 2, none⟩ v).heap[H]? = w6.heap[H]? := fun v => Below.heap_setCell _ _ _ _ (show H ≠ bn by omega)
  have hs4 : ∀ a b c d, ((((w6.setCell ⟨g, n * 4, none⟩ a).setCell ⟨g, n * 4 + 1, none⟩ b).setCell ⟨g, n * 4 + 2, none⟩ c).setCell ⟨g, n * 4 + 3, none⟩ d).heap[bn]? = w6.heap[bn]? := fun a b c d => by
    rw [Below.heap_setCell _ _ _ _ (show bn ≠ g by omega), Below.heap_setCell _ _ _ _ (show bn ≠ g by omega), Below.heap_setCell _ _ _ _ (show bn ≠ g by omega), Below.heap_setCell _ _ _ _ (show bn ≠ g by omega)]
  have kc : ∀ (w1 : World) (b o : Nat) (u : Value), w1.heap[b]? = w6.heap[b]? → w6.cell? ⟨b, o, none⟩ = some u → w1.cell? ⟨b, o, none⟩ = some u := fun w1 b o u he hc => by
    rw [World.cell?_of_block (a := ⟨b, o, none⟩) he]
    exact hc
  have kf : ∀ (w1 : World) (b o : Nat), w1.heap[b]? = w6.heap[b]? → w6.frozen? ⟨b, o, none⟩ = false → w1.frozen? ⟨b, o, none⟩ = false := fun w1 b o he hc => by
    rw [World.frozen?_of_block (a := ⟨b, o, none⟩) he]
    exact hc
  refine ⟨hg1, Ne.symm hg1, ⟨t0, t1, t2, t3, tf⟩, fun v => ?_, ⟨b2, bf⟩, fun a b c d => ?_, ⟨c0, c1, c2, c3⟩, fun v => ?_⟩
  · exact ⟨kc _ _ _ _ (hs v) t0, kc _ _ _ _ (hs v) t1, kc _ _ _ _ (hs v) t2, kc _ _ _ _ (hs v) t3, fun o => kf _ _ _ (hs v) (tf o)⟩
  · exact ⟨kc _ _ _ _ (hs4 a b c d) b2, fun o => kf _ _ _ (hs4 a b c d) (bf o)⟩
  · exact ⟨kc _ _ _ _ (hs2 v) c0, kc _ _ _ _ (hs2 v) c1, kc _ _ _ _ (hs2 v) c2, kc _ _ _ _ (hs2 v) c3⟩
theorem setCell_comm (w : World) (a b : Addr) (u v : Value) (h : a.block ≠ b.block) : (w.setCell a u).setCell b v = (w.setCell b v).setCell a u := by
  have hh : ((w.setCell a u).setCell b v).heap = ((w.setCell b v).setCell a u).heap := by
    apply Array.ext_getElem?
    intro i
    simp only [World.setCell, Array.getElem?_modify]
    by_cases h1 : a.block = i <;> by_cases h2 : b.block = i
    · omega
    · simp [h1, h2]
    · simp [h1, h2]
    · simp [h1, h2]
  unfold World.setCell at hh ⊢
  simp only at hh ⊢
  rw [hh]
theorem setCell_comm4 (w : World) (bn g n : Nat) (a b c d v : Value) (h : bn ≠ g) : ((((w.setCell ⟨bn, 2, none⟩ v).setCell ⟨g, n * 4, none⟩ a).setCell ⟨g, n * 4 + 1, none⟩ b).setCell ⟨g, n * 4 + 2, none⟩ c).setCell ⟨g, n * 4 + 3, none⟩ d = ((((w.setCell ⟨g, n * 4, none⟩ a).setCell ⟨g, n * 4 + 1, none⟩ b).setCell ⟨g, n * 4 + 2, none⟩ c).setCell ⟨g, n * 4 + 3, none⟩ d).setCell ⟨bn, 2, none⟩ v := by
  rw [setCell_comm w ⟨bn, 2, none⟩ ⟨g, n * 4, none⟩ v a h, setCell_comm _ ⟨bn, 2, none⟩ ⟨g, n * 4 + 1, none⟩ v b h, setCell_comm _ ⟨bn, 2, none⟩ ⟨g, n * 4 + 2, none⟩ v c h, setCell_comm _ ⟨bn, 2, none⟩ ⟨g, n * 4 + 3, none⟩ v d h]
/-- What stands after the two stores. -/
theorem add_done {w w2 w6 : World} {bn g n cap : Nat} {va : Option Addr} {vc : Nat} {xs : List Value} {v0 v1 v3 z0 z1 z2 z3 : Value} {acc : List Nd} {k : Int} {nm : List UInt8} {kids : List Nd} {p : Int} {y : Option Addr} {c : Cp kids.length} (hw : Below w.heap.size w w2) (hla : acc.length = n) (hB : Box4 w6 bn v0 v1 (.slice va n vc) v3) (ho : w6.ownsRow (bn + 1) 53 4 (.slice (some ⟨g, 0, none⟩) (n + 1) cap) (n + 1) (xs ++ [z0, z1, z2, z3])) (hgr : w2.grownBy w6 (Value.slice va n vc).ownBlock) (hat : (Value.slice va n vc).ownBlock = some g ∨ g = w2.heap.size) (hxl : xs.length = n * 4) (hbH : bn < w.heap.size) (hown : ∀ k, (Value.slice va n vc).ownBlock = some k → bn + 1 ≤ k ∧ k < w.heap.size)
    (hfl : NFlat w (fun k => bn + 1 ≤ k ∧ some k ≠ (Value.slice va n vc).ownBlock) acc xs) (hk : NdRow w (fun b => bn + 1 ≤ b ∧ some b ≠ (Value.slice va n vc).ownBlock) kids y) :
    ∃ v', Box4 (((((w6.setCell ⟨g, n * 4, none⟩ (.int .i64 k)).setCell ⟨g, n * 4 + 1, none⟩ (.string ⟨nm.toArray⟩)).setCell ⟨g, n * 4 + 2, none⟩ (.slice y kids.length c)).setCell ⟨g, n * 4 + 3, none⟩ (.int .i64 p)).setCell ⟨bn, 2, none⟩ (.slice (some ⟨g, 0, none⟩) (n + 1) cap)) bn v0 v1 v' v3 ∧ RowOwn (((((w6.setCell ⟨g, n * 4, none⟩ (.int .i64 k)).setCell ⟨g, n * 4 + 1, none⟩ (.string ⟨nm.toArray⟩)).setCell ⟨g, n * 4 + 2, none⟩ (.slice y kids.length c)).setCell ⟨g, n * 4 + 3, none⟩ (.int .i64 p)).setCell ⟨bn, 2, none⟩ (.slice (some ⟨g, 0, none⟩) (n + 1) cap)) (bn + 1) v' (acc ++ [.mk k nm kids p]) ∧ Below bn w (((((w6.setCell ⟨g, n * 4, none⟩ (.int .i64 k)).setCell ⟨g, n * 4 + 1, none⟩ (.string ⟨nm.toArray⟩)).setCell ⟨g, n * 4 + 2, none⟩ (.slice y kids.length c)).setCell ⟨g, n * 4 + 3, none⟩ (.int .i64 p)).setCell ⟨bn, 2, none⟩ (.slice (some ⟨g, 0, none⟩) (n + 1) cap)) := by
  have hs2 := hw.size
  have hg1 : bn < g := by
    rcases hat with h | h
    · have := hown g h; omega
    · omega
  have hbox : Box4 ((((w6.setCell ⟨g, n * 4, none⟩ (.int .i64 k)).setCell ⟨g, n * 4 + 1, none⟩ (.string ⟨nm.toArray⟩)).setCell ⟨g, n * 4 + 2, none⟩ (.slice y kids.length c)).setCell ⟨g, n * 4 + 3, none⟩ (.int .i64 p)) bn v0 v1 (.slice va n vc) v3 := (((hB.other (by omega)).other (by omega)).other (by omega)).other (by omega)
  have hrow := own_set4 (v0 := .int .i64 k) (v1 := .string ⟨nm.toArray⟩) (v2 := .slice y kids.length c) (v3 := .int .i64 p) ho hxl
  have hheap : ∀ j, j ≠ bn → j ≠ g → (((((w6.setCell ⟨g, n * 4, none⟩ (.int .i64 k)).setCell ⟨g, n * 4 + 1, none⟩ (.string ⟨nm.toArray⟩)).setCell ⟨g, n * 4 + 2, none⟩ (.slice y kids.length c)).setCell ⟨g, n * 4 + 3, none⟩ (.int .i64 p)).setCell ⟨bn, 2, none⟩ (.slice (some ⟨g, 0, none⟩) (n + 1) cap)).heap[j]? = w6.heap[j]? := fun j h1 h2 => by
    rw [Below.heap_setCell _ _ _ _ h1, Below.heap_setCell _ _ _ _ h2, Below.heap_setCell _ _ _ _ h2, Below.heap_setCell _ _ _ _ h2, Below.heap_setCell _ _ _ _ h2]
  have hsz : (((((w6.setCell ⟨g, n * 4, none⟩ (.int .i64 k)).setCell ⟨g, n * 4 + 1, none⟩ (.string ⟨nm.toArray⟩)).setCell ⟨g, n * 4 + 2, none⟩ (.slice y kids.length c)).setCell ⟨g, n * 4 + 3, none⟩ (.int .i64 p)).setCell ⟨bn, 2, none⟩ (.slice (some ⟨g, 0, none⟩) (n + 1) cap)).heap.size = w6.heap.size := by simp [World.setCell]
  have hkeep : ∀ j, (bn + 1 ≤ j ∧ some j ≠ (Value.slice va n vc).ownBlock) → j < w.heap.size → (((((w6.setCell ⟨g, n * 4, none⟩ (.int .i64 k)).setCell ⟨g, n * 4 + 1, none⟩ (.string ⟨nm.toArray⟩)).setCell ⟨g, n * 4 + 2, none⟩ (.slice y kids.length c)).setCell ⟨g, n * 4 + 3, none⟩ (.int .i64 p)).setCell ⟨bn, 2, none⟩ (.slice (some ⟨g, 0, none⟩) (n + 1) cap)).heap[j]? = w.heap[j]? := fun j hj hlt => by
    rw [hheap j (by omega) (fun e => by
      rcases hat with h | h
      · exact hj.2 (by rw [h, e])
      · omega), hgr.block j (by omega) hj.2]
    exact hw.block j hlt
  have hne : ∀ j, (bn + 1 ≤ j ∧ some j ≠ (Value.slice va n vc).ownBlock) → j < w.heap.size → bn + 1 ≤ j ∧ some j ≠ (Value.slice (some ⟨g, 0, none⟩) (n + 1) cap).ownBlock := fun j hj hlt => ⟨hj.1, fun e => by
    have e2 : j = g := by simpa [Value.ownBlock] using e
    rcases hat with h | h
    · exact hj.2 (by rw [h, e2])
    · omega⟩
  refine ⟨_, hbox.set2, ⟨xs ++ [.int .i64 k, .string ⟨nm.toArray⟩, .slice y kids.length c, .int .i64 p], ?_, ?_⟩, ?_⟩
  · have e : (acc ++ [Nd.mk k nm kids p]).length = n + 1 := by simp [hla]
    rw [e]
    refine ⟨hrow.1, ?_⟩
    rcases hrow.2 with ⟨_, h0⟩ | ⟨g', cap', cur, h1, h2, h3, h4⟩
    · omega
    · refine .inr ⟨g', cap', cur, h1, h2, ?_, h4⟩
      cases h1
      rw [Below.heap_setCell _ _ _ _ (show g ≠ bn by omega)]
      exact h3
  · exact NFlat.app (NdRow.cells (NdRow.mono hne hkeep _ _ hk)) (NFlat.mono hne hkeep hfl)
  · have b6 : Below bn w w6 := ⟨hgr.os.trans hw.os, hgr.tape.trans hw.tape, hgr.output.trans hw.output, Nat.le_trans hs2 hgr.size, fun j hj => by
      rw [hgr.block j (by omega) (fun e => by have := hown j e.symm; omega)]
      exact hw.block j (by omega)⟩
    exact ((((b6.setCell (p := ⟨g, n * 4, none⟩) (by show bn ≤ g; omega) _).setCell (p := ⟨g, n * 4 + 1, none⟩) (by show bn ≤ g; omega) _).setCell (p := ⟨g, n * 4 + 2, none⟩) (by show bn ≤ g; omega) _).setCell (p := ⟨g, n * 4 + 3, none⟩) (by show bn ≤ g; omega) _).setCell (p := ⟨bn, 2, none⟩) (Nat.le_refl _) _
set_option maxHeartbeats 4000000 in
/-- One node more stands below the node that is made. -/
theorem add_any (bn : Nat) (acc : List Nd) (hacc : acc.length ≤ 8) (v v0 v1 v3 : Value) (k : Int) (n : List UInt8) (kids : List Nd) (p : Int) (y : Option Addr) (c : Cp kids.length) (w : World) (hb : Box4 w bn v0 v1 v v3) (hrow : RowOwn w (bn + 1) v acc) (hk : NdRow w (fun b => bn + 1 ≤ b ∧ some b ≠ v.ownBlock) kids y) :
    Calls Tryz.prog 103 #[.agg #[.int .i64 k, .string ⟨n.toArray⟩, .slice y kids.length c, .int .i64 p], .pointer (some ⟨bn, 0, none⟩)] w fun e w' => e = .returned (.tuple #[]) ∧ ∃ v', Box4 w' bn v0 v1 v' v3 ∧ RowOwn w' (bn + 1) v' (acc ++ [.mk k n kids p]) ∧ Below bn w w' := by
  obtain ⟨i0, hi0, hz0, hz1, hz2⟩ := info_parts Tryz.infoNode
  obtain ⟨va, vc, rfl, hvc, _⟩ := hrow.shape
  obtain ⟨la, hla⟩ : ∃ la, acc.length = la := ⟨_, rfl⟩
  have HLA := Lib.hid hla
  have hltb := hb.lt
  have W1 : Below w.heap.size w (w.alloc (.cells #[.int .i64 k, .string ⟨n.toArray⟩, .slice y kids.length c, .int .i64 p] 53)) := (Below.refl _ _).alloc (Nat.le_refl _) _
  obtain ⟨_, _, n2, _, nf⟩ := hb.facts
  have hb1 := hb.alloc (.cells #[.int .i64 k, .string ⟨n.toArray⟩, .slice y kids.length c, .int .i64 p] 53)
  have hbk := Box4.new w (.int .i64 k) (.string ⟨n.toArray⟩) (.slice y kids.length c) (.int .i64 p)
  obtain ⟨x0, x1, x2, x3, xf⟩ := hbk.facts
  obtain ⟨_, _, m2, _, mf⟩ := hb1.facts
  have m2o := fun o => al_cell m2 o
  have x0o := fun o => al_cell x0 o
  have x1o := fun o => al_cell x1 o
  have x2o := fun o => al_cell x2 o
  have x3o := fun o => al_cell x3 o
  rw [hla] at n2 m2 m2o hvc hacc
  have HB := Lib.hid hb
  obtain ⟨xs, hown, hflat⟩ := hrow
  rw [hla] at hown
  have hxl : xs.length = la * 4 := hown.1
  have hownlt := hown.lt
  have HOWN : Hid ((((w.alloc (.cells #[.int .i64 k, .string ⟨n.toArray⟩, .slice y kids.length c, .int .i64 p] 53)).alloc (.cells #[.int .i64 0, .string ⟨#[]⟩, .slice none 0 0, .int .i64 0] 53)).drew).ownsRow (bn + 1) 53 4 (.slice va la vc) la xs) := (hown.alloc _).alloc _
  have hbn : some bn ≠ (Value.slice va la vc).ownBlock := fun e => by have := (hownlt bn e.symm).1; omega
  have hbk : some w.heap.size ≠ (Value.slice va la vc).ownBlock := fun e => by have := (hownlt _ e.symm).2; omega
  have HBB : Hid (Box4 (((w.alloc (.cells #[.int .i64 k, .string ⟨n.toArray⟩, .slice y kids.length c, .int .i64 p] 53)).alloc (.cells #[.int .i64 0, .string ⟨#[]⟩, .slice none 0 0, .int .i64 0] 53)).drew) bn v0 v1 (.slice va la vc) v3) := by
    have h9 := (hb.alloc (.cells #[.int .i64 k, .string ⟨n.toArray⟩, .slice y kids.length c, .int .i64 p] 53)).alloc (.cells #[.int .i64 0, .string ⟨#[]⟩, .slice none 0 0, .int .i64 0] 53)
    rw [hla] at h9
    exact h9
  have HBK : Hid (Box4 (((w.alloc (.cells #[.int .i64 k, .string ⟨n.toArray⟩, .slice y kids.length c, .int .i64 p] 53)).alloc (.cells #[.int .i64 0, .string ⟨#[]⟩, .slice none 0 0, .int .i64 0] 53)).drew) w.heap.size (.int .i64 k) (.string ⟨n.toArray⟩) (.slice y kids.length c) (.int .i64 p)) := (Box4.new w _ _ _ _).alloc _
  have hszz : (((w.alloc (.cells #[.int .i64 k, .string ⟨n.toArray⟩, .slice y kids.length c, .int .i64 p] 53)).alloc (.cells #[.int .i64 0, .string ⟨#[]⟩, .slice none 0 0, .int .i64 0] 53)).drew).heap.size = w.heap.size + 1 + 1 := by
    show ((w.alloc _).alloc _).heap.size = _
    rw [World.size_alloc, World.size_alloc]
  have hcz := cell_four_new (w.alloc (.cells #[.int .i64 k, .string ⟨n.toArray⟩, .slice y kids.length c, .int .i64 p] 53)) (.int .i64 0) (.string ⟨#[]⟩) (.slice none 0 0) (.int .i64 0) 53
  rw [World.size_alloc] at hcz
  have HCZ := Lib.hid hcz
  have hS0 : (w.alloc (.cells #[.int .i64 k, .string ⟨n.toArray⟩, .slice y kids.length c, .int .i64 p] 53)).drew.cell? ⟨w.heap.size, 0, none⟩ = some (.int .i64 k) ∧ (w.alloc (.cells #[.int .i64 k, .string ⟨n.toArray⟩, .slice y kids.length c, .int .i64 p] 53)).drew.cell? ⟨w.heap.size, 1, none⟩ = some (.string ⟨n.toArray⟩) ∧ (w.alloc (.cells #[.int .i64 k, .string ⟨n.toArray⟩, .slice y kids.length c, .int .i64 p] 53)).drew.cell? ⟨w.heap.size, 2, none⟩ = some (.slice y kids.length c) ∧ (w.alloc (.cells #[.int .i64 k, .string ⟨n.toArray⟩, .slice y kids.length c, .int .i64 p] 53)).drew.cell? ⟨w.heap.size, 3, none⟩ = some (.int .i64 p) := ⟨x0, x1, x2, x3⟩
  have hS1 : (((w.alloc (.cells #[.int .i64 k, .string ⟨n.toArray⟩, .slice y kids.length c, .int .i64 p] 53)).alloc (.cells #[.int .i64 0, .string ⟨#[]⟩, .slice none 0 0, .int .i64 0] 53)).drew).cell? ⟨w.heap.size, 0, none⟩ = some (.int .i64 k) ∧ (((w.alloc (.cells #[.int .i64 k, .string ⟨n.toArray⟩, .slice y kids.length c, .int .i64 p] 53)).alloc (.cells #[.int .i64 0, .string ⟨#[]⟩, .slice none 0 0, .int .i64 0] 53)).drew).cell? ⟨w.heap.size, 1, none⟩ = some (.string ⟨n.toArray⟩) ∧ (((w.alloc (.cells #[.int .i64 k, .string ⟨n.toArray⟩, .slice y kids.length c, .int .i64 p] 53)).alloc (.cells #[.int .i64 0, .string ⟨#[]⟩, .slice none 0 0, .int .i64 0] 53)).drew).cell? ⟨w.heap.size, 2, none⟩ = some (.slice y kids.length c) ∧ (((w.alloc (.cells #[.int .i64 k, .string ⟨n.toArray⟩, .slice y kids.length c, .int .i64 p] 53)).alloc (.cells #[.int .i64 0, .string ⟨#[]⟩, .slice none 0 0, .int .i64 0] 53)).drew).cell? ⟨w.heap.size, 3, none⟩ = some (.int .i64 p) := ⟨x0o _, x1o _, x2o _, x3o _⟩
  have HAL := Lib.hid hownlt
  rw [hla] at hflat
  have HFL := Lib.hid hflat
  have hk' := hk
  rw [hla] at hk'
  have HK := Lib.hid hk'
  have HW2 : Hid (Below w.heap.size w (((w.alloc (.cells #[.int .i64 k, .string ⟨n.toArray⟩, .slice y kids.length c, .int .i64 p] 53)).alloc (.cells #[.int .i64 0, .string ⟨#[]⟩, .slice none 0 0, .int .i64 0] 53)).drew)) := (((Below.refl _ _).alloc (Nat.le_refl _) _).alloc (by rw [World.size_alloc]; omega) _).drew
  have hin : (la : Int) < la + 1 := by omega
  clear hb hk hk' hla hown hflat hcz W1
  go_enter Tryz.func103, Tryz.ntmps103
  go_wp2_with fail
  go_region_law? (first | (refine step_append_lies _ rfl (.tmp 4) (.tmp 7) 22 rfl (bn + 1) 53 i0 (.agg #[.int .i64 0, .string ⟨#[]⟩, .slice none 0 0, .int .i64 0]) 4 56 Tryz.underlying22 hi0 hz0 hz1 hz2 rfl (by decide) (.slice va la vc) la xs (by simp [Act.eval, Act.put]) HOWN.out ⟨w.heap.size + 1, 0, none⟩ 1 1 [.int .i64 0, .string ⟨#[]⟩, .slice none 0 0, .int .i64 0] (by simp [Act.eval, Act.put]) rfl HCZ.out (fun x hx => by simp at hx; rcases hx with rfl | rfl | rfl | rfl <;> rfl) (by omega) (by unfold maxLen; omega) (by omega) (by omega) _ rfl ?_; intro g cap w6 hown' hgrow hat hlt; have hB6 := keep_far HBB.out hgrow hbn; have hS6 := keep_far HBK.out hgrow hbk; have hfa := add_facts hB6 hS6 hown' hgrow hat hlt hxl hszz hltb HAL.out; obtain ⟨g1, g2, ⟨t0, t1, t2, t3, tf⟩, tb, ⟨b2, bf⟩, bb, ⟨c0, c1, c2, c3⟩, cc⟩ := hfa; have tb0 := fun v => (tb v).1; have tb1 := fun v => (tb v).2.1; have tb2 := fun v => (tb v).2.2.1; have tb3 := fun v => (tb v).2.2.2.1; have tbf := fun v => (tb v).2.2.2.2; have bb0 := fun a b c d => (bb a b c d).1; have bbf := fun a b c d => (bb a b c d).2; have cc0 := fun v => (cc v).1; have cc1 := fun v => (cc v).2.1; have cc2 := fun v => (cc v).2.2.1; have cc3 := fun v => (cc v).2.2.2; have HFA := Lib.hid (And.intro hB6 (And.intro hown' (And.intro hgrow hlt))); clear hB6 hS6 hown' hgrow hlt tb bb cc))
  all_goals (
    obtain ⟨hB6, hown', hgrow, hlt⟩ := HFA.out
    have hdone := add_done (c := c) (p := p) (k := k) (nm := n) HW2.out HLA.out hB6 hown' hgrow hat hxl hltb HAL.out HFL.out HK.out
    clear HFA hB6 hown' hgrow hlt tf tbf bf bbf t0 t1 t2 t3 tb0 tb1 tb2 tb3 b2 bb0 c0 c1 c2 c3 cc0 cc1 cc2 cc3
    go_end0
    refine ⟨rfl, ?_⟩
    first
    | with_reducible exact hdone
    | (rw [setCell_comm4 _ _ _ _ _ _ _ _ _ g2]; with_reducible exact hdone))
end Go.Proofs.YtpbkeamjdolpgaaGreatDoor
namespace Go.Proofs.YtpbkeamjdolpgaaGreatDoor
open Go.RowKit Go.Lib Go.Shelf

/-- What is known between two calls of a method that puts a node together. -/
def Mid (C : Ctx) (w0 : World) (bn : Nat) (k : Int) (nm : List UInt8) (v : Value) (acc : List Nd) (pp : Int) (q : Nat) (w : World) : Prop :=
  Box4 w bn (.int .i64 k) (.string ⟨nm.toArray⟩) v (.int .i64 pp) ∧ RowOwn w (bn + 1) v acc ∧ Box4 w w0.heap.size (.int .i64 0) (.string ⟨#[]⟩) (.slice none 0 0) (.int .i64 0) ∧ PSt C w q ∧ Ow C.pb w0 w ∧ w0.heap.size < bn ∧ ∃ p0, PSt C w0 p0
section
variable {C : Ctx} {w0 : World} {bn : Nat} {k : Int} {nm : List UInt8} {v : Value} {acc : List Nd} {pp : Int} {q : Nat} {w : World}
theorem Mid.ow (h : Mid C w0 bn k nm v acc pp q w) {q' : Nat} {w' : World} (hs : PSt C w' q') (ho : Ow C.pb w w') : Mid C w0 bn k nm v acc pp q' w' := by
  obtain ⟨h1, h2, h3, _, h5, h6, p0, h7⟩ := h
  have := h7.lt
  exact ⟨h1.ow ho (by omega), h2.ow ho (by omega), h3.ow ho (by omega), hs, h5.trans ho, h6, p0, h7⟩
theorem Mid.below (h : Mid C w0 bn k nm v acc pp q w) {w' : World} (hb : Below w.heap.size w w') : Mid C w0 bn k nm v acc pp q w' := h.ow (h.2.2.2.1.below hb) (Ow.of_below hb)
theorem Mid.set0 (h : Mid C w0 bn k nm v acc pp q w) (k' : Int) : Mid C w0 bn k' nm v acc pp q (w.setCell ⟨bn, 0, none⟩ (.int .i64 k')) := by
  obtain ⟨h1, h2, h3, h4, h5, h6, p0, h7⟩ := h
  exact ⟨h1.set0, h2.ow ((Ow.refl bn w).setCell (.inl rfl) _) (Nat.lt_succ_self _), h3.other (by omega), h7.keep h4 (fun j hj => Below.heap_setCell _ _ _ _ (show j ≠ bn by omega)), h5.set (by omega), h6, p0, h7⟩
theorem Mid.set1 (h : Mid C w0 bn k nm v acc pp q w) (n' : List UInt8) : Mid C w0 bn k n' v acc pp q (w.setCell ⟨bn, 1, none⟩ (.string ⟨n'.toArray⟩)) := by
  obtain ⟨h1, h2, h3, h4, h5, h6, p0, h7⟩ := h
  exact ⟨h1.set1, h2.ow ((Ow.refl bn w).setCell (.inl rfl) _) (Nat.lt_succ_self _), h3.other (by omega), h7.keep h4 (fun j hj => Below.heap_setCell _ _ _ _ (show j ≠ bn by omega)), h5.set (by omega), h6, p0, h7⟩
theorem Mid.facts (h : Mid C w0 bn k nm v acc pp q w) : BoxF w bn (.int .i64 k) (.string ⟨nm.toArray⟩) v (.int .i64 pp) ∧ BoxF w w0.heap.size (.int .i64 0) (.string ⟨#[]⟩) (.slice none 0 0) (.int .i64 0) := ⟨h.1.facts, h.2.2.1.facts⟩
theorem Mid.lt (h : Mid C w0 bn k nm v acc pp q w) : w0.heap.size < bn ∧ bn < w.heap.size ∧ C.pb < w0.heap.size := by
  obtain ⟨h1, _, _, _, _, h6, p0, h7⟩ := h
  exact ⟨h6, h1.lt, h7.lt⟩
/-- The row of what stands in it. -/
theorem Mid.row (h : Mid C w0 bn k nm v acc pp q w) : ∃ y, ∃ c : Cp acc.length, v = .slice y acc.length c ∧ NdRow w (fun b => bn + 1 ≤ b) acc y := by
  obtain ⟨a, c, h1, hc, h3⟩ := h.2.1.shape
  exact ⟨a, ⟨c, hc⟩, h1, h3⟩

variable {R : Res Nd}
theorem skip_m (h : Mid C w0 bn k nm v acc pp q w) {s : List UInt8} {A B : Res Nd} (hR : R = if isT C.ts q s = true then A else B) :
    Calls Tryz.prog 104 #[.pointer (some ⟨C.pb, 0, none⟩), .string ⟨s.toArray⟩] w fun e w' => (e = .returned (.bool true) ∧ R = A ∧ Mid C w0 bn k nm v acc pp (q + 1) w') ∨ (e = .returned (.bool false) ∧ R = B ∧ Mid C w0 bn k nm v acc pp q w') :=
  (skip_x C q s w h.2.2.2.1 (fun _ => True) (fun _ _ => trivial)).mono fun _ _ h1 => h1.imp (fun ⟨a, b, c, d, _⟩ => ⟨b, by rw [hR, if_pos a], h.ow c d⟩) (fun ⟨a, b, c, d, _⟩ => ⟨b, by rw [hR, a]; rfl, h.ow c d⟩)
theorem is_m (h : Mid C w0 bn k nm v acc pp q w) {s : List UInt8} {A B : Res Nd} (hR : R = if isT C.ts q s = true then A else B) :
    Calls Tryz.prog 111 #[.pointer (some ⟨C.pb, 0, none⟩), .string ⟨s.toArray⟩] w fun e w' => (e = .returned (.bool true) ∧ R = A ∧ Mid C w0 bn k nm v acc pp q w') ∨ (e = .returned (.bool false) ∧ R = B ∧ Mid C w0 bn k nm v acc pp q w') :=
  (is_x C q s w h.2.2.2.1 (fun _ => True) (fun _ _ => trivial)).mono fun _ _ h1 => h1.imp (fun ⟨a, b, c, d, _⟩ => ⟨b, by rw [hR, if_pos a], h.ow c d⟩) (fun ⟨a, b, c, d, _⟩ => ⟨b, by rw [hR, a]; rfl, h.ow c d⟩)
theorem is_b (h : Mid C w0 bn k nm v acc pp q w) (s : List UInt8) :
    Calls Tryz.prog 111 #[.pointer (some ⟨C.pb, 0, none⟩), .string ⟨s.toArray⟩] w fun e w' => (e = .returned (.bool true) ∧ isT C.ts q s = true ∧ Mid C w0 bn k nm v acc pp q w') ∨ (e = .returned (.bool false) ∧ isT C.ts q s = false ∧ Mid C w0 bn k nm v acc pp q w') :=
  (is_x C q s w h.2.2.2.1 (fun _ => True) (fun _ _ => trivial)).mono fun _ _ h1 => h1.imp (fun ⟨a, b, c, d, _⟩ => ⟨b, a, h.ow c d⟩) (fun ⟨a, b, c, d, _⟩ => ⟨b, a, h.ow c d⟩)
theorem take_m (h : Mid C w0 bn k nm v acc pp q w) {s : List UInt8} {K : Nat → Nat → Res Nd} (hR : R = (takeP C.ts C.s.size s q).bind K) :
    Calls Tryz.prog 108 #[.pointer (some ⟨C.pb, 0, none⟩), .string ⟨s.toArray⟩] w fun e w' => (∃ q', e = .returned (.int .i64 (placeT C.ts C.s.size q)) ∧ R = K (placeT C.ts C.s.size q) q' ∧ Mid C w0 bn k nm v acc pp q' w') ∨ (R = .bad q ∧ DeadF C w0 w' q e) :=
  (take_x C q s w h.2.2.2.1 (fun _ => True) (fun _ _ => trivial)).mono fun _ _ h1 => h1.imp (fun ⟨q', a, b, c, d, _⟩ => ⟨q', b, by rw [hR, a]; rfl, h.ow c d⟩) (fun ⟨a, b⟩ => ⟨by rw [hR, a]; rfl, b.from h.2.2.2.2.1⟩)
theorem name_m (h : Mid C w0 bn k nm v acc pp q w) {K : List UInt8 → Nat → Res Nd} (hR : R = (nameP C.ts q).bind K) :
    Calls Tryz.prog 105 #[.pointer (some ⟨C.pb, 0, none⟩)] w fun e w' => (∃ q' n, e = .returned (.string ⟨n.toArray⟩) ∧ R = K n q' ∧ Mid C w0 bn k nm v acc pp q' w') ∨ (R = .bad q ∧ DeadF C w0 w' q e) :=
  (name_x C q w h.2.2.2.1 (fun _ => True) (fun _ _ => trivial)).mono fun _ _ h1 => h1.imp (fun ⟨q', a, b, c, d, _⟩ => ⟨q', _, b, by rw [hR, a]; rfl, h.ow c d⟩) (fun ⟨a, b⟩ => ⟨by rw [hR, a]; rfl, b.from h.2.2.2.2.1⟩)
/-- A part is read. -/
theorem node_m (h : Mid C w0 bn k nm v acc pp q w) {F : Nat} {args : Array Value} {S : Res Nd} (hc : PSt C w q → S ≠ .out → Calls Tryz.prog F args w (FinN C w S)) {K : Nd → Nat → Res Nd} (hR : R = S.bind K) (hne : R ≠ .out) :
    Calls Tryz.prog F args w fun e w' => (∃ k' n, ∃ kids : List Nd, ∃ p y, ∃ c : Cp kids.length, ∃ q', R = K (.mk k' n kids p) q' ∧ e = .returned (.agg #[.int .i64 k', .string ⟨n.toArray⟩, .slice y kids.length c, .int .i64 p]) ∧ NdRow w' (fun b => bn + 1 ≤ b ∧ some b ≠ v.ownBlock) kids y ∧ Mid C w0 bn k nm v acc pp q' w') ∨ (∃ q', R = .bad q' ∧ DeadF C w0 w' q' e) := by
  refine (hc h.2.2.2.1 (fun e => hne (by rw [hR, e]; rfl))).mono fun _ _ h1 => h1.imp (fun ⟨k', n, kids, p, y, c, q', a, b, d, e, f⟩ => ⟨k', n, kids, p, y, c, q', by rw [hR, a]; rfl, b, d.wide fun j hj _ => ?_, h.ow e f⟩) (fun ⟨q', a, b⟩ => ⟨q', by rw [hR, a]; rfl, b.from h.2.2.2.2.1⟩)
  have h2 := h.lt
  obtain ⟨xs, h3, _⟩ := h.2.1
  exact ⟨by omega, fun e => by have := (h3.lt j e.symm).2; omega⟩
/-- A part is put behind the others. -/
theorem add_m (h : Mid C w0 bn k nm v acc pp q w) (hacc : acc.length ≤ 8) {k' : Int} {n : List UInt8} {kids : List Nd} {p : Int} {y : Option Addr} {c : Cp kids.length} (hk : NdRow w (fun b => bn + 1 ≤ b ∧ some b ≠ v.ownBlock) kids y) :
    Calls Tryz.prog 103 #[.agg #[.int .i64 k', .string ⟨n.toArray⟩, .slice y kids.length c, .int .i64 p], .pointer (some ⟨bn, 0, none⟩)] w fun e w' => e = .returned (.tuple #[]) ∧ ∃ va m vc, Mid C w0 bn k nm (.slice va m vc) (acc ++ [.mk k' n kids p]) pp q w' := by
  obtain ⟨h1, h2, h3, h4, h5, h6, p0, h7⟩ := h
  refine (add_any bn acc hacc v _ _ _ k' n kids p y c w h1 h2 hk).mono ?_
  rintro e w' ⟨rfl, v', g1, g2, g3⟩
  obtain ⟨va, vc, rfl, _⟩ := g2.shape
  exact ⟨rfl, va, _, vc, g1, g2, (g3.block _ h6).trans h3, h7.keep h4 (fun j hj => g3.block j (by omega)), h5.belowB g3 (by omega), h6, p0, h7⟩
theorem Mid.start {p : Nat} {w1 : World} (h0 : PSt C w0 p) (ho : Ow C.pb (w0.alloc zNode) w1) (hs : PSt C w1 q) (k : Int) (pp : Int) : Mid C w0 w1.heap.size k [] (.slice none 0 0) [] pp q (w1.alloc (.cells #[.int .i64 k, .string ⟨#[]⟩, .slice none 0 0, .int .i64 pp] 53)) := by
  have hlt := h0.lt
  have hsz := ho.size
  rw [World.size_alloc] at hsz
  exact ⟨Box4.new w1 _ _ _ _, RowOwn.nil _ _, ((Box4.new w0 _ _ _ _).ow ho (by omega)).alloc _, hs.below ((Below.refl _ _).alloc (Nat.le_refl _) _), (((Ow.refl _ _).alloc _).trans ho).alloc _, by omega, p, h0⟩
/-- A node is put together. -/
theorem Mid.done (h : Mid C w0 bn k nm v acc pp q w) (hR : R = .ok (.mk k nm acc pp) q) {w' : World} (hk : ∀ j, j ≠ w0.heap.size → w'.heap[j]? = w.heap[j]?) (hs : w'.heap.size = w.heap.size) (ho : w'.os = w.os) (ht : w'.tape = w.tape) (hp : w'.output = w.output) : FinN C w0 R (.returned (.agg #[.int .i64 k, .string ⟨nm.toArray⟩, v, .int .i64 pp])) w' := by
  obtain ⟨y, c, rfl, h9⟩ := h.row
  obtain ⟨h1, h2, h3, h4, h5, h6, p0, h7⟩ := h
  refine .inl ⟨k, nm, acc, pp, y, c, q, hR, rfl, NdRow.mono (fun j hj _ => by omega) (fun j hj _ => hk j (by omega)) _ _ h9, h7.keep h4 fun j hj => hk j (by omega), ho.trans h5.os, ht.trans h5.tape, hp.trans h5.output, by rw [hs]; exact h5.size, fun j h8 h10 => (hk j (by omega)).trans (h5.block j h8 h10)⟩
theorem Mid.drew (h : Mid C w0 bn k nm v acc pp q w) : Mid C w0 bn k nm v acc pp q w.drew := h.below (Below.refl _ _).drew
theorem node_okm (h : Mid C w0 bn k nm v acc pp q w) {F : Nat} {args : Array Value} {S : Res Nd} (hc : Calls Tryz.prog F args w (FinN C w S)) {k' : Int} {n : List UInt8} {kids : List Nd} {p : Int} {q' : Nat} (hS : S = .ok (.mk k' n kids p) q') :
    Calls Tryz.prog F args w fun e w' => ∃ y, ∃ c : Cp kids.length, e = .returned (.agg #[.int .i64 k', .string ⟨n.toArray⟩, .slice y kids.length c, .int .i64 p]) ∧ NdRow w' (fun b => bn + 1 ≤ b ∧ some b ≠ v.ownBlock) kids y ∧ Mid C w0 bn k nm v acc pp q' w' :=
  (node_m h (S := S) (R := S) (K := fun x r => .ok x r) (fun _ _ => hc) (by rw [hS]; rfl) (by rw [hS]; intro h; cases h)).mono fun _ _ h1 => by
    rcases h1 with ⟨a1, a2, a3, a4, y, c, a5, h2, h3, h4, h5⟩ | ⟨a, h2, _⟩
    · rw [hS] at h2
      cases h2
      exact ⟨y, c, h3, h4, h5⟩
    · rw [hS] at h2
      cases h2
/-- A node more stands in the row. -/
theorem Mid.push {va : Option Addr} {m vc : Nat} {xs : List Value} {k' : Int} {n : List UInt8} {kids : List Nd} {p : Int} {y : Option Addr} {c : Cp kids.length} {w2 w6 : World} {g cap : Nat} (h : Mid C w0 bn k nm (.slice va m vc) acc pp q w) (hm : acc.length = m) (hk : NdRow w (fun b => bn + 1 ≤ b ∧ some b ≠ (Value.slice va m vc).ownBlock) kids y)
    (hfl : NFlat w (fun k => bn + 1 ≤ k ∧ some k ≠ (Value.slice va m vc).ownBlock) acc xs) (hown : ∀ k, (Value.slice va m vc).ownBlock = some k → bn + 1 ≤ k ∧ k < w.heap.size) (hw : Below w.heap.size w w2)
    (ho : w6.ownsRow (bn + 1) 53 4 (.slice (some ⟨g, 0, none⟩) (m + 1) cap) (m + 1) (xs ++ [.int .i64 k', .string ⟨n.toArray⟩, .slice y kids.length c, .int .i64 p])) (hgr : w2.grownBy w6 (Value.slice va m vc).ownBlock) (hat : (Value.slice va m vc).ownBlock = some g ∨ g = w2.heap.size) :
    Mid C w0 bn k nm (.slice (some ⟨g, 0, none⟩) (m + 1) cap) (acc ++ [.mk k' n kids p]) pp q (w6.setCell ⟨bn, 2, none⟩ (.slice (some ⟨g, 0, none⟩) (m + 1) cap)) := by
  have hlt := h.lt
  have hs2 := hw.size
  obtain ⟨h1, h2, h3, h4, h5, h6, p0, h7⟩ := h
  have hg1 : bn < g := by
    rcases hat with e | e
    · have := hown g e; omega
    · omega
  have hbn : some bn ≠ (Value.slice va m vc).ownBlock := fun e => by have := hown bn e.symm; omega
  have b6 : Below bn w w6 := ⟨hgr.os.trans hw.os, hgr.tape.trans hw.tape, hgr.output.trans hw.output, Nat.le_trans hs2 hgr.size, fun j hj => by
    rw [hgr.block j (by omega) (fun e => by have := hown j e.symm; omega)]
    exact hw.block j (by omega)⟩
  have b7 : Below bn w (w6.setCell ⟨bn, 2, none⟩ (.slice (some ⟨g, 0, none⟩) (m + 1) cap)) := b6.setCell (p := ⟨bn, 2, none⟩) (Nat.le_refl _) _
  have hbox : Box4 w6 bn (.int .i64 k) (.string ⟨nm.toArray⟩) (.slice va m vc) (.int .i64 pp) := keep_far (h1.below hw) hgr hbn
  have hx : NFlat w2 (fun k => bn + 1 ≤ k ∧ some k ≠ (Value.slice va m vc).ownBlock) acc xs := NFlat.mono (fun _ h _ => h) (fun j _ hj => hw.block j hj) hfl
  have hk2 : NdRow w2 (fun k => bn + 1 ≤ k ∧ some k ≠ (Value.slice va m vc).ownBlock) kids y := NdRow.mono (fun _ h _ => h) (fun j _ hj => hw.block j hj) _ _ hk
  have hr : RowOwn w6 (bn + 1) (.slice (some ⟨g, 0, none⟩) (m + 1) cap) (acc ++ [.mk k' n kids p]) := RowOwn.snoc hx hk2.cells (by rw [hm]; exact ho) hgr (hat.imp (fun e => by rw [e]; rfl) (fun e k hk => by
    have : g = k := by simpa [Value.ownBlock] using hk
    omega))
  exact ⟨hbox.set2, hr.ow ((Ow.refl bn w6).setCell (.inl rfl) _) (Nat.lt_succ_self _), (b7.block _ h6).trans h3, h7.keep h4 (fun j hj => b7.block j (by omega)), h5.belowB b7 (by omega), h6, p0, h7⟩
theorem Mid.done4 (h : Mid C w0 bn k nm v acc pp q w) (hR : R = .ok (.mk k nm acc pp) q) {a b c d : Value} : FinN C w0 R (.returned (.agg #[.int .i64 k, .string ⟨nm.toArray⟩, v, .int .i64 pp])) ((((w.setCell ⟨w0.heap.size, 0, none⟩ a).setCell ⟨w0.heap.size, 1, none⟩ b).setCell ⟨w0.heap.size, 2, none⟩ c).setCell ⟨w0.heap.size, 3, none⟩ d) :=
  h.done hR (fun j hj => by rw [Below.heap_setCell _ _ _ _ hj, Below.heap_setCell _ _ _ _ hj, Below.heap_setCell _ _ _ _ hj, Below.heap_setCell _ _ _ _ hj]) (by simp [World.setCell]) rfl rfl rfl
end
end Go.Proofs.YtpbkeamjdolpgaaGreatDoor
