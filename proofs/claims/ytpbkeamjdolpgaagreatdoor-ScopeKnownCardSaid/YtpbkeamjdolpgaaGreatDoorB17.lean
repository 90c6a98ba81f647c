/- The walk of tree.Parse. -/
import Derived.Test.YtpbkeamjdolpgaaGreatDoorB16
import Derived.Test.YtpbkeamjdolpgaaGreatDoorB06
namespace Go.Proofs.YtpbkeamjdolpgaaGreatDoor
open Go.RowKit Go.Lib Go.Shelf

/-- What stands at the head of Parse's loop. -/
def PM (C : Ctx) (w0 : World) (pa pe : Nat) (v : Value) (acc : List Nd) (q : Nat) (w : World) : Prop :=
  w.heap[pa]? = some (.cells #[v] 22 (0, 0)) ∧ w.heap[pe]? = some (.cells #[.nilIface] 36 (0, 0)) ∧ RowOwn w (C.pb + 1) v acc ∧ PSt C w q ∧ Below w0.heap.size w0 w ∧ w0.heap.size ≤ pa ∧ pa < pe ∧ pe < C.pb ∧ ∀ g, C.x = some ⟨g, 0, none⟩ → pe < g ∧ g < C.pb
section
variable {C : Ctx} {w0 : World} {pa pe : Nat} {v : Value} {acc : List Nd} {q : Nat} {w : World}
theorem PM.ow (h : PM C w0 pa pe v acc q w) {q' : Nat} {w' : World} (hs : PSt C w' q') (ho : Ow C.pb w w') : PM C w0 pa pe v acc q' w' := by
  obtain ⟨h1, h2, h3, h4, h5, h6, h7, h8, h9⟩ := h
  have hl := h4.lt
  have hz := h5.size
  exact ⟨(ho.block pa (by omega) (by omega)).trans h1, (ho.block pe (by omega) (by omega)).trans h2, h3.ow ho (by omega), hs, h5.trans (ho.toBelow (by omega) hz), h6, h7, h8, h9⟩
theorem PM.below (h : PM C w0 pa pe v acc q w) {w' : World} (hb : Below w.heap.size w w') : PM C w0 pa pe v acc q w' := h.ow (h.2.2.2.1.below hb) (Ow.of_below hb)
theorem PM.drewN (h : PM C w0 pa pe v acc q w) (n : Nat) : PM C w0 pa pe v acc q (w.drewN n) := h.below (bdn (Below.refl _ _) n)
theorem PM.facts (h : PM C w0 pa pe v acc q w) : (w.cell? ⟨pa, 0, none⟩ = some v ∧ w.frozen? ⟨pa, 0, none⟩ = false ∧ w.cell? ⟨pe, 0, none⟩ = some .nilIface ∧ w.frozen? ⟨pe, 0, none⟩ = false) ∧ w.cell? ⟨C.pb, 1, none⟩ = some (.slice C.x C.ts.length C.c) ∧ w.cell? ⟨C.pb, 2, none⟩ = some (.int .i64 q) := by
  obtain ⟨h1, h2, h3, h4, _⟩ := h
  exact ⟨⟨cell_of_one h1, free_of_one h1, cell_of_one h2, free_of_one h2⟩, h4.cells.2.1, h4.cells.2.2.1⟩
theorem PM.lt (h : PM C w0 pa pe v acc q w) : w0.heap.size ≤ pa ∧ pa < pe ∧ pe < C.pb ∧ C.pb < w.heap.size := ⟨h.2.2.2.2.2.1, h.2.2.2.2.2.2.1, h.2.2.2.2.2.2.2.1, h.2.2.2.1.lt⟩
theorem PM.row (h : PM C w0 pa pe v acc q w) : ∃ y c, v = .slice y acc.length c ∧ NdRow w (fun b => C.pb + 1 ≤ b) acc y := by
  obtain ⟨a, c, h1, _, h3⟩ := h.2.2.1.shape
  exact ⟨a, c, h1, h3⟩
theorem node_p (h : PM C w0 pa pe v acc q w) {F : Nat} {args : Array Value} {S : Res Nd} (hc : Calls Tryz.prog F args w (FinN C w S)) {k' : Int} {n : List UInt8} {kids : List Nd} {p : Int} {q' : Nat} (hS : S = .ok (.mk k' n kids p) q') :
    Calls Tryz.prog F args w fun e w' => ∃ y, ∃ c : Cp kids.length, e = .returned (.agg #[.int .i64 k', .string ⟨n.toArray⟩, .slice y kids.length c, .int .i64 p]) ∧ NdRow w' (fun b => C.pb + 1 ≤ b ∧ some b ≠ v.ownBlock) kids y ∧ PM C w0 pa pe v acc q' w' ∧ Ow C.pb w w' := by
  refine (node_ok hc hS (fun _ => True) (fun _ _ => trivial)).mono ?_
  rintro e w' ⟨y, c, he, hk, hs, ho, _⟩
  have hl := h.2.2.2.1.lt
  obtain ⟨xs, hown, _⟩ := h.2.2.1
  exact ⟨y, c, he, hk.wide fun b hb _ => ⟨by omega, fun e => by have := (hown.lt b e.symm).2; omega⟩, h.ow hs ho, ho⟩
end
/-- What is known after the append. -/
theorem push_facts {w6 : World} {pa base g n cap : Nat} {e t : TypeId} {xs : List Value} {z0 z1 z2 z3 u : Value} (hP : w6.heap[pa]? = some (.cells #[u] t (0, 0))) (ho : w6.ownsRow base e 4 (.slice (some ⟨g, 0, none⟩) (n + 1) cap) (n + 1) (xs ++ [z0, z1, z2, z3])) (hg : g ≠ pa) (hxl : xs.length = n * 4) :
    (w6.cell? ⟨g, n * 4, none⟩ = some z0 ∧ w6.cell? ⟨g, n * 4 + 1, none⟩ = some z1 ∧ w6.cell? ⟨g, n * 4 + 2, none⟩ = some z2 ∧ w6.cell? ⟨g, n * 4 + 3, none⟩ = some z3 ∧ ∀ o, w6.frozen? ⟨g, o, none⟩ = false) ∧
    (∀ v, (w6.setCell ⟨pa, 0, none⟩ v).cell? ⟨g, n * 4, none⟩ = some z0 ∧ (w6.setCell ⟨pa, 0, none⟩ v).cell? ⟨g, n * 4 + 1, none⟩ = some z1 ∧ (w6.setCell ⟨pa, 0, none⟩ v).cell? ⟨g, n * 4 + 2, none⟩ = some z2 ∧ (w6.setCell ⟨pa, 0, none⟩ v).cell? ⟨g, n * 4 + 3, none⟩ = some z3 ∧ ∀ o, (w6.setCell ⟨pa, 0, none⟩ v).frozen? ⟨g, o, none⟩ = false) ∧
    (w6.cell? ⟨pa, 0, none⟩ = some u ∧ w6.frozen? ⟨pa, 0, none⟩ = false) ∧
    (∀ a b c d, ((((w6.setCell ⟨g, n * 4, none⟩ a).setCell ⟨g, n * 4 + 1, none⟩ b).setCell ⟨g, n * 4 + 2, none⟩ c).setCell ⟨g, n * 4 + 3, none⟩ d).cell? ⟨pa, 0, none⟩ = some u ∧ ((((w6.setCell ⟨g, n * 4, none⟩ a).setCell ⟨g, n * 4 + 1, none⟩ b).setCell ⟨g, n * 4 + 2, none⟩ c).setCell ⟨g, n * 4 + 3, none⟩ d).frozen? ⟨pa, 0, none⟩ = false) := by
  obtain ⟨t0, t1, t2, t3, tf⟩ := own_top ho hxl
  have hs : ∀ v, (w6.setCell ⟨pa, 0, none⟩ v).heap[g]? = w6.heap[g]? := fun v => Below.heap_setCell _ _ _ _ hg
  have hs4 : ∀ a b c d, ((((w6.setCell ⟨g, n * 4, none⟩ a).setCell ⟨g, n * 4 + 1, none⟩ b).setCell ⟨g, n * 4 + 2, none⟩ c).setCell ⟨g, n * 4 + 3, none⟩ d).heap[pa]? = some (.cells #[u] t (0, 0)) := fun a b c d => by
    rw [Below.heap_setCell _ _ _ _ (show pa ≠ g from Ne.symm hg), Below.heap_setCell _ _ _ _ (show pa ≠ g from Ne.symm hg), Below.heap_setCell _ _ _ _ (show pa ≠ g from Ne.symm hg), Below.heap_setCell _ _ _ _ (show pa ≠ g from Ne.symm hg)]
    exact hP
  have kc : ∀ (w1 : World) (o : Nat) (x : Value), w1.heap[g]? = w6.heap[g]? → w6.cell? ⟨g, o, none⟩ = some x → w1.cell? ⟨g, o, none⟩ = some x := fun w1 o x he hc => (World.cell?_of_block (a := ⟨g, o, none⟩) he).trans hc
  refine ⟨⟨t0, t1, t2, t3, tf⟩, fun v => ?_, ⟨cell_of_one hP, free_of_one hP⟩, fun a b c d => ⟨cell_of_one (hs4 a b c d), free_of_one (hs4 a b c d)⟩⟩
  exact ⟨kc _ _ _ (hs v) t0, kc _ _ _ (hs v) t1, kc _ _ _ (hs v) t2, kc _ _ _ (hs v) t3, fun o => (World.frozen?_of_block (a := ⟨g, o, none⟩) (hs v)).trans (tf o)⟩
theorem setCell_far4 (w : World) (pa g n : Nat) (a b c d v : Value) (h : pa ≠ g) : ((((w.setCell ⟨pa, 0, none⟩ v).setCell ⟨g, n * 4, none⟩ a).setCell ⟨g, n * 4 + 1, none⟩ b).setCell ⟨g, n * 4 + 2, none⟩ c).setCell ⟨g, n * 4 + 3, none⟩ d = ((((w.setCell ⟨g, n * 4, none⟩ a).setCell ⟨g, n * 4 + 1, none⟩ b).setCell ⟨g, n * 4 + 2, none⟩ c).setCell ⟨g, n * 4 + 3, none⟩ d).setCell ⟨pa, 0, none⟩ v := by
  rw [setCell_comm w ⟨pa, 0, none⟩ ⟨g, n * 4, none⟩ v a h, setCell_comm _ ⟨pa, 0, none⟩ ⟨g, n * 4 + 1, none⟩ v b h, setCell_comm _ ⟨pa, 0, none⟩ ⟨g, n * 4 + 2, none⟩ v c h, setCell_comm _ ⟨pa, 0, none⟩ ⟨g, n * 4 + 3, none⟩ v d h]
set_option maxHeartbeats 1000000 in
/-- One statement more. -/
theorem PM.push {C : Ctx} {w0 : World} {pa pe : Nat} {acc : List Nd} {q : Nat} {w w2 w6 : World} {va : Option Addr} {m vc g cap : Nat} {xs : List Value} {k' : Int} {n : List UInt8} {kids : List Nd} {p : Int} {y : Option Addr} {c : Cp kids.length} {z0 z1 z2 z3 : Value} (h : PM C w0 pa pe (.slice va m vc) acc q w) (hm : acc.length = m) (hk : NdRow w (fun b => C.pb + 1 ≤ b ∧ some b ≠ (Value.slice va m vc).ownBlock) kids y)
    (hfl : NFlat w (fun k => C.pb + 1 ≤ k ∧ some k ≠ (Value.slice va m vc).ownBlock) acc xs) (hxl : xs.length = m * 4) (hown : ∀ k, (Value.slice va m vc).ownBlock = some k → C.pb + 1 ≤ k ∧ k < w.heap.size) (hw : Below w.heap.size w w2)
    (ho : w6.ownsRow (C.pb + 1) 53 4 (.slice (some ⟨g, 0, none⟩) (m + 1) cap) (m + 1) (xs ++ [z0, z1, z2, z3])) (hgr : w2.grownBy w6 (Value.slice va m vc).ownBlock) (hat : (Value.slice va m vc).ownBlock = some g ∨ g = w2.heap.size) :
    PM C w0 pa pe (.slice (some ⟨g, 0, none⟩) (m + 1) cap) (acc ++ [.mk k' n kids p]) q (((((w6.setCell ⟨g, m * 4, none⟩ (.int .i64 k')).setCell ⟨g, m * 4 + 1, none⟩ (.string ⟨n.toArray⟩)).setCell ⟨g, m * 4 + 2, none⟩ (.slice y kids.length c)).setCell ⟨g, m * 4 + 3, none⟩ (.int .i64 p)).setCell ⟨pa, 0, none⟩ (.slice (some ⟨g, 0, none⟩) (m + 1) cap)) := by
  obtain ⟨h1, h2, h3, h4, h5, h6, h7, h8, h9⟩ := h
  have hl := h4.lt
  have hs2 := hw.size
  have hcp : C.pb ≠ pa := by omega
  have hcg : ∀ gx, C.x = some ⟨gx, 0, none⟩ → gx < C.pb + 1 ∧ gx ≠ pa := fun gx hx => by have := h9 gx hx; omega
  have hg1 : C.pb < g := by
    rcases hat with e | e
    · have := hown g e; omega
    · omega
  obtain ⟨W, hW⟩ : ∃ W, W = (((((w6.setCell ⟨g, m * 4, none⟩ (.int .i64 k')).setCell ⟨g, m * 4 + 1, none⟩ (.string ⟨n.toArray⟩)).setCell ⟨g, m * 4 + 2, none⟩ (.slice y kids.length c)).setCell ⟨g, m * 4 + 3, none⟩ (.int .i64 p)).setCell ⟨pa, 0, none⟩ (.slice (some ⟨g, 0, none⟩) (m + 1) cap)) := ⟨_, rfl⟩
  rw [← hW]
  have hheap : ∀ j, j ≠ pa → j ≠ g → W.heap[j]? = w6.heap[j]? := fun j g1 g2 => by
    rw [hW, Below.heap_setCell _ _ _ _ g1, Below.heap_setCell _ _ _ _ g2, Below.heap_setCell _ _ _ _ g2, Below.heap_setCell _ _ _ _ g2, Below.heap_setCell _ _ _ _ g2]
  have hold : ∀ j, j < w.heap.size → some j ≠ (Value.slice va m vc).ownBlock → w6.heap[j]? = w.heap[j]? := fun j hj hn => (hgr.block j (by omega) hn).trans (hw.block j hj)
  have hnb : ∀ j, j < C.pb + 1 → some j ≠ (Value.slice va m vc).ownBlock := fun j hj e => by have := hown j e.symm; omega
  have hkeep : ∀ j, (C.pb + 1 ≤ j ∧ some j ≠ (Value.slice va m vc).ownBlock) → j < w.heap.size → W.heap[j]? = w.heap[j]? := fun j hj hlt => by
    rw [hheap j (by omega) (fun e => by
      rcases hat with h | h
      · exact hj.2 (by rw [h, e])
      · omega)]
    exact hold j hlt hj.2
  have hne : ∀ j, (C.pb + 1 ≤ j ∧ some j ≠ (Value.slice va m vc).ownBlock) → j < w.heap.size → C.pb + 1 ≤ j ∧ some j ≠ (Value.slice (some ⟨g, 0, none⟩) (m + 1) cap).ownBlock := fun j hj hlt => ⟨hj.1, fun e => by
    have e2 : j = g := by simpa [Value.ownBlock] using e
    rcases hat with h | h
    · exact hj.2 (by rw [h, e2])
    · omega⟩
  have hlow : ∀ j, j < C.pb + 1 → j ≠ pa → W.heap[j]? = w.heap[j]? := fun j hj hp => by
    rw [hheap j hp (by omega)]
    exact hold j (by omega) (hnb j hj)
  have hsz : W.heap.size = w6.heap.size := by rw [hW]; simp [World.setCell]
  have hpa : W.heap[pa]? = some (.cells #[.slice (some ⟨g, 0, none⟩) (m + 1) cap] 22 (0, 0)) := by
    rw [hW]
    refine one_setCell (v := .slice va m vc) ?_
    rw [Below.heap_setCell _ _ _ _ (show pa ≠ g by omega), Below.heap_setCell _ _ _ _ (show pa ≠ g by omega), Below.heap_setCell _ _ _ _ (show pa ≠ g by omega), Below.heap_setCell _ _ _ _ (show pa ≠ g by omega)]
    exact (hold pa (by omega) (hnb pa (by omega))).trans h1
  have hrow : W.ownsRow (C.pb + 1) 53 4 (.slice (some ⟨g, 0, none⟩) (m + 1) cap) (m + 1) (xs ++ [.int .i64 k', .string ⟨n.toArray⟩, .slice y kids.length c, .int .i64 p]) := by
    have hr := own_set4 (v0 := .int .i64 k') (v1 := .string ⟨n.toArray⟩) (v2 := .slice y kids.length c) (v3 := .int .i64 p) ho hxl
    refine ⟨hr.1, ?_⟩
    rcases hr.2 with ⟨_, h0⟩ | ⟨g', cap', cur, i1, i2, i3, i4⟩
    · omega
    · refine .inr ⟨g', cap', cur, i1, i2, ?_, i4⟩
      cases i1
      rw [hW, Below.heap_setCell _ _ _ _ (show g ≠ pa by omega)]
      exact i3
  have hos : W.os = w6.os ∧ W.tape = w6.tape ∧ W.output = w6.output := by rw [hW]; exact ⟨rfl, rfl, rfl⟩
  clear hW
  refine ⟨hpa, (hlow pe (by omega) (by omega)).trans h2, ⟨xs ++ [.int .i64 k', .string ⟨n.toArray⟩, .slice y kids.length c, .int .i64 p], ?_, ?_⟩, ?_, ?_, h6, h7, h8, h9⟩
  · have e : (acc ++ [Nd.mk k' n kids p]).length = m + 1 := by simp [hm]
    rw [e]
    exact hrow
  · exact NFlat.app (NdRow.cells (NdRow.mono hne hkeep _ _ hk)) (NFlat.mono hne hkeep hfl)
  · refine ⟨(hlow C.pb (Nat.lt_succ_self _) hcp).trans h4.blk, ?_, h4.xne, h4.le, h4.len⟩
    intro i u hu
    obtain ⟨gx, r1, r2, r3, r4⟩ := h4.row i u hu
    have hb := hlow gx (hcg gx r1).1 (hcg gx r1).2
    exact ⟨gx, r1, (World.cell?_of_block hb).trans r2, (World.cell?_of_block hb).trans r3, (World.cell?_of_block hb).trans r4⟩
  · refine ⟨hos.1.trans (hgr.os.trans (hw.os.trans h5.os)), hos.2.1.trans (hgr.tape.trans (hw.tape.trans h5.tape)), hos.2.2.trans (hgr.output.trans (hw.output.trans h5.output)), ?_, fun j hj => ?_⟩
    · rw [hsz]
      have := h5.size
      have := hgr.size
      omega
    · exact (hlow j (by omega) (by omega)).trans (h5.block j hj)
theorem res_two {fn : Func} {p q : Tmp} (hr : fn.results = #[.cell p 22, .cell q 36]) {tmps : Array Value} {w : World} {a b : Nat} {v0 v1 : Value} (hp : tmps.getD p undef = .pointer (some ⟨a, 0, none⟩)) (hq : tmps.getD q undef = .pointer (some ⟨b, 0, none⟩)) (c0 : w.cell? ⟨a, 0, none⟩ = some v0) (c1 : w.cell? ⟨b, 0, none⟩ = some v1) : (results fn tmps).run Tryz.prog w = .ok (.tuple #[v0, v1]) w := by
  have hp' : tmps[p]?.getD undef = .pointer (some ⟨a, 0, none⟩) := by simpa using hp
  have hq' : tmps[q]?.getD undef = .pointer (some ⟨b, 0, none⟩) := by simpa using hq
  simp [results, hr, hp', hq', go_sem, c0, c1]
set_option maxHeartbeats 4000000 in
set_option maxRecDepth 100000 in
theorem parse_err (s : ByteArray) (w : World) (hG : Gl w) (f : Flt) (hT : tokensL s.data.toList = .error f) :
    Calls Tryz.prog 27 #[.string s] w fun e w' => Below w.heap.size w w' ∧ ∃ b, w.heap.size ≤ b ∧ e = .returned (.tuple #[.slice none 0 0, .iface 23 (.pointer (some ⟨b, 0, none⟩))]) ∧ w'.heap[b]? = some (.cells #[.int .i64 f.1, .int .i64 f.2.1, .string ⟨f.2.2.toArray⟩] 61 (0, 0)) := by
  have hmf : ∀ (fn : Fn) (first cap : Array Value) (w : World), (Instr.makeFunc fn first cap).run Tryz.prog w = .ok (.func fn first cap) w := fun _ _ _ _ => rfl
  have c0 := tokens_all s ((w.alloc (.cells #[.slice none 0 0] 22)).alloc (.cells #[.nilIface] 36)) ((hG.below ((Below.refl _ _).alloc (Nat.le_refl _) _)).below ((Below.refl _ _).alloc (Nat.le_refl _) _))
  rw [hT] at c0
  have hA2 : ((w.alloc (.cells #[.slice none 0 0] 22)).alloc (.cells #[.nilIface] 36)).heap[w.heap.size]? = some (.cells #[.slice none 0 0] 22 (0, 0)) := (Below.heap_alloc _ _ _ (by rw [World.size_alloc]; omega)).trans (heap_alloc_new w _)
  have hB2 : ((w.alloc (.cells #[.slice none 0 0] 22)).alloc (.cells #[.nilIface] 36)).heap[w.heap.size + 1]? = some (.cells #[.nilIface] 36 (0, 0)) := by
    have := heap_alloc_new (w.alloc (.cells #[.slice none 0 0] 22)) (.cells #[.nilIface] 36)
    rwa [World.size_alloc] at this
  have hsz : ((w.alloc (.cells #[.slice none 0 0] 22)).alloc (.cells #[.nilIface] 36)).heap.size = w.heap.size + 1 + 1 := by rw [World.size_alloc, World.size_alloc]
  have HF : Hid (∀ w1, Below ((w.alloc (.cells #[.slice none 0 0] 22)).alloc (.cells #[.nilIface] 36)).heap.size ((w.alloc (.cells #[.slice none 0 0] 22)).alloc (.cells #[.nilIface] 36)) w1 → w1.heap[w.heap.size]? = some (.cells #[.slice none 0 0] 22 (0, 0)) ∧ w1.heap[w.heap.size + 1]? = some (.cells #[.nilIface] 36 (0, 0)) ∧ w.heap.size + 1 < w1.heap.size) := fun w1 hb => ⟨(hb.block _ (by rw [hsz]; omega)).trans hA2, (hb.block _ (by rw [hsz]; omega)).trans hB2, by have := hb.size; omega⟩
  clear hG hT hA2 hB2 hsz
  go_enter_defers Tryz.func27, Tryz.ntmps27
  go_wp2_with fail
  refine c0.mono ?_
  clear c0
  rintro e w1 ⟨hb, b, hb1, rfl, hb2⟩
  obtain ⟨ha, hp, hl⟩ := HF.out w1 hb
  have a1 := cell_of_one ha
  have a2 := free_of_one ha
  have e1 := cell_of_one hp
  have e2 := free_of_one hp
  have HB := Lib.hid hb
  have HB2 := Lib.hid hb2
  have HA := Lib.hid ha
  have HP := Lib.hid hp
  clear hb hb2 HF ha hp
  go_wp2_with fail
  go_region
  all_goals go_wp2
  refine ⟨.tuple #[.slice none 0 0, .iface 23 (.pointer (some ⟨b, 0, none⟩))], res_two rfl rfl rfl ?_ ?_, ?_⟩
  · exact cell_of_one (t := 22) ((Below.heap_setCell _ _ _ _ (show w.heap.size ≠ w.heap.size + 1 by omega)).trans (one_setCell ((Below.heap_setCell _ _ _ _ (show w.heap.size ≠ w.heap.size + 1 by omega)).trans HA.out)))
  · exact cell_of_one (t := 36) (one_setCell ((Below.heap_setCell _ _ _ _ (show w.heap.size + 1 ≠ w.heap.size by omega)).trans (one_setCell HP.out)))
  rw [World.size_alloc, World.size_alloc] at hb1
  have hb := HB.out
  have h1 : Below w.heap.size w w1 := (((Below.refl _ _).alloc (Nat.le_refl _) _).alloc (by rw [World.size_alloc]; omega) _).trans (hb.mono (by rw [World.size_alloc, World.size_alloc]; omega))
  refine ⟨(((h1.setCell (p := ⟨w.heap.size + 1, 0, none⟩) (Nat.le_succ _) _).setCell (p := ⟨w.heap.size, 0, none⟩) (Nat.le_refl _) _).setCell (p := ⟨w.heap.size + 1, 0, none⟩) (Nat.le_succ _) _).drew, b, by omega, rfl, ?_⟩
  have h2 : ∀ (x : World) (k : Nat) (v : Value), k < w.heap.size + 1 + 1 → (x.setCell ⟨k, 0, none⟩ v).heap[b]? = x.heap[b]? := fun x k v hk => Below.heap_setCell _ _ _ _ (show b ≠ k by omega)
  show ((((w1.setCell _ _).setCell _ _).setCell _ _).drew).heap[b]? = _
  show (((w1.setCell _ _).setCell _ _).setCell _ _).heap[b]? = _
  rw [h2 _ _ _ (by omega), h2 _ _ _ (by omega), h2 _ _ _ (by omega)]
  exact HB2.out
end Go.Proofs.YtpbkeamjdolpgaaGreatDoor
