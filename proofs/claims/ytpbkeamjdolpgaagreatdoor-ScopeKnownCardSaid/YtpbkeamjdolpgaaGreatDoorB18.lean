/- The walk of tree.Parse over a text that has tokens. -/
import Derived.Test.YtpbkeamjdolpgaaGreatDoorB17
import Derived.Test.YtpbkeamjdolpgaaGreatDoorB07
import Derived.RegionDies
import Derived.Deep.RegionWith
import Derived.Deep.RegionLaw
import Derived.Deep.AppendLies
namespace Go.Proofs.YtpbkeamjdolpgaaGreatDoor
open Go.RowKit Go.Lib Go.Shelf

/-- What tree.Parse hands back. -/
def ParseEnd (R : Except FlI (List Nd)) (w : World) (e : Ending) (w' : World) : Prop :=
  Below w.heap.size w w' ∧ match R with
  | .ok l => ∃ y c, e = .returned (.tuple #[.slice y l.length c, .nilIface]) ∧ NdRow w' (fun b => w.heap.size ≤ b) l y ∧ l.length ≤ c
  | .error f => ∃ b, w.heap.size ≤ b ∧ e = .returned (.tuple #[.slice none 0 0, .iface 23 (.pointer (some ⟨b, 0, none⟩))]) ∧ w'.heap[b]? = some (.cells #[.int .i64 f.1, .int .i64 f.2.1, .string ⟨f.2.2.toArray⟩] 61 (0, 0))
theorem stmtsP_step {ts : List Tk} {L F g : Nat} {acc : List Nd} {q : Nat} (h : q < ts.length) : stmtsP ts L F (g + 1) acc q = (stmtP ts L F F q).bind fun x r => stmtsP ts L F g (acc ++ [x]) r := by
  rw [stmtsP, if_neg (by omega)]
theorem stmtsP_end {ts : List Tk} {L F g : Nat} {acc : List Nd} {q : Nat} (h : ¬ q < ts.length) : stmtsP ts L F (g + 1) acc q = .ok acc q := by
  rw [stmtsP, if_pos (by omega)]
theorem die_end {C : Ctx} {w wx w5 : World} {pa : Nat} {v : Value} {acc : List Nd} {q b : Nat} {f : FlI} (hm : PM C w pa (pa + 1) v acc q wx) (hb : wx.heap.size ≤ b) (hf : w5.heap[b]? = some (.cells #[.int .i64 f.1, .int .i64 f.2.1, .string ⟨f.2.2.toArray⟩] 61 (0, 0))) (ho : Ow C.pb wx w5) :
    (w5.cell? ⟨pa, 0, none⟩ = some v ∧ w5.frozen? ⟨pa, 0, none⟩ = false ∧ w5.cell? ⟨pa + 1, 0, none⟩ = some .nilIface ∧ w5.frozen? ⟨pa + 1, 0, none⟩ = false) ∧
    (((w5.setCell ⟨pa, 0, none⟩ (.slice none 0 0)).setCell ⟨pa + 1, 0, none⟩ (.iface 23 (.pointer (some ⟨b, 0, none⟩)))).cell? ⟨pa, 0, none⟩ = some (.slice none 0 0) ∧ ((w5.setCell ⟨pa, 0, none⟩ (.slice none 0 0)).setCell ⟨pa + 1, 0, none⟩ (.iface 23 (.pointer (some ⟨b, 0, none⟩)))).cell? ⟨pa + 1, 0, none⟩ = some (.iface 23 (.pointer (some ⟨b, 0, none⟩)))) ∧
    ParseEnd (.error f) w (.returned (.tuple #[.slice none 0 0, .iface 23 (.pointer (some ⟨b, 0, none⟩))])) ((w5.setCell ⟨pa, 0, none⟩ (.slice none 0 0)).setCell ⟨pa + 1, 0, none⟩ (.iface 23 (.pointer (some ⟨b, 0, none⟩)))) := by
  obtain ⟨h1, h2, h3, h4, h5, h6, h7, h8, h9⟩ := hm
  have hl := h4.lt
  have k1 : w5.heap[pa]? = some (.cells #[v] 22 (0, 0)) := (ho.block pa (by omega) (by omega)).trans h1
  have k2 : w5.heap[pa + 1]? = some (.cells #[.nilIface] 36 (0, 0)) := (ho.block (pa + 1) (by omega) (by omega)).trans h2
  have hz := h5.size
  refine ⟨⟨cell_of_one k1, free_of_one k1, cell_of_one k2, free_of_one k2⟩, ⟨?_, ?_⟩, ?_, b, by omega, rfl, ?_⟩
  · exact cell_of_one (t := 22) ((Below.heap_setCell _ _ _ _ (show pa ≠ pa + 1 by omega)).trans (one_setCell k1))
  · exact cell_of_one (t := 36) (one_setCell ((Below.heap_setCell _ _ _ _ (show pa + 1 ≠ pa by omega)).trans k2))
  · exact ((h5.trans (ho.toBelow (by omega) hz)).setCell (p := ⟨pa, 0, none⟩) h6 _).setCell (p := ⟨pa + 1, 0, none⟩) (by show w.heap.size ≤ pa + 1; omega) _
  · exact ((Below.heap_setCell _ _ _ _ (show b ≠ pa + 1 by omega)).trans (Below.heap_setCell _ _ _ _ (show b ≠ pa by omega))).trans hf
mutual
theorem LenN.of_sz : ∀ (x : Nd), szN x < 2 ^ 62 → LenN x
  | .mk _ _ kids _, h => by
    rw [szN_mk] at h
    have := len_szL kids
    exact ⟨by omega, LenL.of_sz kids (by omega)⟩
theorem LenL.of_sz : ∀ (l : List Nd), szL l < 2 ^ 62 → LenL l
  | [], _ => trivial
  | x :: r, h => by
    have h' : szN x + szL r < 2 ^ 62 := h
    exact ⟨LenN.of_sz x (by omega), LenL.of_sz r (by omega)⟩
end
theorem new_kept {b : Nat} {wx w5 : World} {k : Nat} {xs : List Value} (ho : Ow b wx w5) (_hk : k < wx.heap.size) (hn : k ≠ b) (h : ∀ j u, xs[j]? = some u → wx.cell? ((⟨k, 0, none⟩ : Addr).add j) = some u) : ∀ j u, xs[j]? = some u → w5.cell? ((⟨k, 0, none⟩ : Addr).add j) = some u := by
  intro j u hj
  have := h j u hj
  rw [Addr.add_lit] at this ⊢
  exact ho.cell hn this
theorem err_end {C : Ctx} {w w5 : World} {pa : Nat} {v : Value} {acc : List Nd} {q : Nat} (hm : PM C w pa (pa + 1) v acc q w5) (f : FlI) :
    (∀ o, (w5.alloc o).cell? ⟨pa, 0, none⟩ = some v ∧ (w5.alloc o).frozen? ⟨pa, 0, none⟩ = false) ∧
    (∀ o u, ((w5.setCell ⟨pa, 0, none⟩ u).alloc o).cell? ⟨pa + 1, 0, none⟩ = some .nilIface ∧ ((w5.setCell ⟨pa, 0, none⟩ u).alloc o).frozen? ⟨pa + 1, 0, none⟩ = false) ∧
    (∀ o u, ((w5.alloc o).setCell ⟨pa, 0, none⟩ u).cell? ⟨pa + 1, 0, none⟩ = some .nilIface ∧ ((w5.alloc o).setCell ⟨pa, 0, none⟩ u).frozen? ⟨pa + 1, 0, none⟩ = false) ∧
    (∀ W : World, (W = (((w5.setCell ⟨pa, 0, none⟩ (.slice none 0 0)).alloc (.cells #[.int .i64 f.1, .int .i64 f.2.1, .string ⟨f.2.2.toArray⟩] 61)).setCell ⟨pa + 1, 0, none⟩ (.iface 23 (.pointer (some ⟨w5.heap.size, 0, none⟩)))).drew ∨ W = (((w5.alloc (.cells #[.int .i64 f.1, .int .i64 f.2.1, .string ⟨f.2.2.toArray⟩] 61)).setCell ⟨pa, 0, none⟩ (.slice none 0 0)).setCell ⟨pa + 1, 0, none⟩ (.iface 23 (.pointer (some ⟨w5.heap.size, 0, none⟩)))).drew) →
      W.cell? ⟨pa, 0, none⟩ = some (.slice none 0 0) ∧ W.cell? ⟨pa + 1, 0, none⟩ = some (.iface 23 (.pointer (some ⟨w5.heap.size, 0, none⟩))) ∧ ParseEnd (.error f) w (.returned (.tuple #[.slice none 0 0, .iface 23 (.pointer (some ⟨w5.heap.size, 0, none⟩))])) W) := by
  have hlt := hm.lt
  obtain ⟨h1, h2, h3, h4, h5, h6, h7, h8, h9⟩ := hm
  have hz := h5.size
  have ha : ∀ o, (w5.alloc o).heap[pa]? = some (.cells #[v] 22 (0, 0)) := fun o => (Below.heap_alloc _ _ _ (by omega)).trans h1
  have he : ∀ o, (w5.alloc o).heap[pa + 1]? = some (.cells #[.nilIface] 36 (0, 0)) := fun o => (Below.heap_alloc _ _ _ (by omega)).trans h2
  have hsz : ∀ u, (w5.setCell ⟨pa, 0, none⟩ u).heap.size = w5.heap.size := fun u => by simp [World.setCell]
  have hs : ∀ u, (w5.setCell ⟨pa, 0, none⟩ u).heap[pa + 1]? = some (.cells #[.nilIface] 36 (0, 0)) := fun u => (Below.heap_setCell _ _ _ _ (show pa + 1 ≠ pa by omega)).trans h2
  have hs2 : ∀ o u, ((w5.setCell ⟨pa, 0, none⟩ u).alloc o).heap[pa + 1]? = some (.cells #[.nilIface] 36 (0, 0)) := fun o u => (Below.heap_alloc _ _ _ (by rw [hsz]; omega)).trans (hs u)
  have hs3 : ∀ o u, ((w5.alloc o).setCell ⟨pa, 0, none⟩ u).heap[pa + 1]? = some (.cells #[.nilIface] 36 (0, 0)) := fun o u => (Below.heap_setCell _ _ _ _ (show pa + 1 ≠ pa by omega)).trans (he o)
  refine ⟨fun o => ⟨cell_of_one (ha o), free_of_one (ha o)⟩, fun o u => ⟨cell_of_one (hs2 o u), free_of_one (hs2 o u)⟩, fun o u => ⟨cell_of_one (hs3 o u), free_of_one (hs3 o u)⟩, ?_⟩
  rintro W (rfl | rfl)
  · refine ⟨?_, ?_, (((h5.setCell (p := ⟨pa, 0, none⟩) h6 _).alloc (by rw [hsz]; omega) _).setCell (p := ⟨pa + 1, 0, none⟩) (by show w.heap.size ≤ pa + 1; omega) _).drew, w5.heap.size, hz, rfl, ?_⟩
    · exact cell_of_one (t := 22) ((Below.heap_setCell _ _ _ _ (show pa ≠ pa + 1 by omega)).trans ((Below.heap_alloc _ _ _ (by rw [hsz]; omega)).trans (one_setCell h1)))
    · exact cell_of_one (t := 36) (one_setCell (hs2 _ _))
    · have := heap_alloc_new (w5.setCell ⟨pa, 0, none⟩ (.slice none 0 0)) (.cells #[.int .i64 f.1, .int .i64 f.2.1, .string ⟨f.2.2.toArray⟩] 61)
      rw [hsz] at this
      exact (Below.heap_setCell _ _ _ _ (show w5.heap.size ≠ pa + 1 by omega)).trans this
  · refine ⟨?_, ?_, (((h5.alloc (by omega) _).setCell (p := ⟨pa, 0, none⟩) h6 _).setCell (p := ⟨pa + 1, 0, none⟩) (by show w.heap.size ≤ pa + 1; omega) _).drew, w5.heap.size, hz, rfl, ?_⟩
    · exact cell_of_one (t := 22) ((Below.heap_setCell _ _ _ _ (show pa ≠ pa + 1 by omega)).trans (one_setCell (ha _)))
    · exact cell_of_one (t := 36) (one_setCell (hs3 _ _))
    · exact (Below.heap_setCell _ _ _ _ (show w5.heap.size ≠ pa + 1 by omega)).trans ((Below.heap_setCell _ _ _ _ (show w5.heap.size ≠ pa by omega)).trans (heap_alloc_new _ _))
theorem ret_end {R : Ending → World → Prop} {pa : Nat} {v0 v1 : Value} {W : World} {tmps : Array Value} (h2 : tmps.getD 2 undef = .pointer (some ⟨pa, 0, none⟩)) (h3 : tmps.getD 3 undef = .pointer (some ⟨pa + 1, 0, none⟩)) (c0 : W.cell? ⟨pa, 0, none⟩ = some v0) (c1 : W.cell? ⟨pa + 1, 0, none⟩ = some v1) (hR : R (.returned (.tuple #[v0, v1])) W) :
    bodyPostD Tryz.prog Tryz.f27 R .ret { tmps := tmps, defers := [{ target := .fn (.func 59) #[.pointer (some ⟨pa, 0, none⟩), .pointer (some ⟨pa + 1, 0, none⟩)], args := #[] }] } W := by
  show Leaves _ _ _ _ _ _ _
  refine leaves_cons (f := 59) (args := #[.pointer (some ⟨pa, 0, none⟩), .pointer (some ⟨pa + 1, 0, none⟩)]) (by simp) (by simp [go_sem]) ?_
  refine (door_idle pa (pa + 1) W).mono ?_
  rintro e u' w'' ⟨rfl, rfl, rfl⟩
  show Leaves _ _ _ _ [] .returning _
  exact ⟨_, res_two rfl h2 h3 c0 c1, hR⟩
theorem ok_end {C : Ctx} {w w5 : World} {pa : Nat} {va : Option Addr} {vc : Nat} {acc : List Nd} {q : Nat} (hm : PM C w pa (pa + 1) (.slice va acc.length vc) acc q w5) :
    ((w5.setCell ⟨pa, 0, none⟩ (.slice va acc.length vc)).setCell ⟨pa + 1, 0, none⟩ .nilIface).cell? ⟨pa, 0, none⟩ = some (.slice va acc.length vc) ∧ ((w5.setCell ⟨pa, 0, none⟩ (.slice va acc.length vc)).setCell ⟨pa + 1, 0, none⟩ .nilIface).cell? ⟨pa + 1, 0, none⟩ = some .nilIface ∧
    ParseEnd (.ok acc) w (.returned (.tuple #[.slice va acc.length vc, .nilIface])) ((w5.setCell ⟨pa, 0, none⟩ (.slice va acc.length vc)).setCell ⟨pa + 1, 0, none⟩ .nilIface) := by
  obtain ⟨y, c, hv, hrow⟩ := hm.row
  cases hv
  have hcap : acc.length ≤ vc := by
    obtain ⟨xs, hx, _⟩ := hm.2.2.1
    exact own_cap hx
  obtain ⟨h1, h2, h3, h4, h5, h6, h7, h8, h9⟩ := hm
  have hz := h5.size
  refine ⟨?_, ?_, (h5.setCell (p := ⟨pa, 0, none⟩) h6 _).setCell (p := ⟨pa + 1, 0, none⟩) (by show w.heap.size ≤ pa + 1; omega) _, va, vc, rfl, ?_, hcap⟩
  · exact cell_of_one (t := 22) ((Below.heap_setCell _ _ _ _ (show pa ≠ pa + 1 by omega)).trans (one_setCell h1))
  · exact cell_of_one (t := 36) (one_setCell ((Below.heap_setCell _ _ _ _ (show pa + 1 ≠ pa by omega)).trans h2))
  · exact ((hrow.set (fun b hb => by omega)).set (fun b hb => by omega)).wide fun b hb _ => by omega
theorem door_end {R : Ending → World → Prop} {pa b : Nat} {v0 v1 : Value} {w5 : World} {tmps : Array Value} (h2 : tmps.getD 2 undef = .pointer (some ⟨pa, 0, none⟩)) (h3 : tmps.getD 3 undef = .pointer (some ⟨pa + 1, 0, none⟩))
    (c0 : w5.cell? ⟨pa, 0, none⟩ = some v0 ∧ w5.frozen? ⟨pa, 0, none⟩ = false ∧ w5.cell? ⟨pa + 1, 0, none⟩ = some v1 ∧ w5.frozen? ⟨pa + 1, 0, none⟩ = false)
    (c1 : ((w5.setCell ⟨pa, 0, none⟩ (.slice none 0 0)).setCell ⟨pa + 1, 0, none⟩ (.iface 23 (.pointer (some ⟨b, 0, none⟩)))).cell? ⟨pa, 0, none⟩ = some (.slice none 0 0) ∧ ((w5.setCell ⟨pa, 0, none⟩ (.slice none 0 0)).setCell ⟨pa + 1, 0, none⟩ (.iface 23 (.pointer (some ⟨b, 0, none⟩)))).cell? ⟨pa + 1, 0, none⟩ = some (.iface 23 (.pointer (some ⟨b, 0, none⟩))))
    (hR : R (.returned (.tuple #[.slice none 0 0, .iface 23 (.pointer (some ⟨b, 0, none⟩))])) ((w5.setCell ⟨pa, 0, none⟩ (.slice none 0 0)).setCell ⟨pa + 1, 0, none⟩ (.iface 23 (.pointer (some ⟨b, 0, none⟩))))) :
    bodyPostD Tryz.prog Tryz.f27 R (.panic [{ v := .iface 23 (.pointer (some ⟨b, 0, none⟩)), recovered := false }]) { tmps := tmps, defers := [{ target := .fn (.func 59) #[.pointer (some ⟨pa, 0, none⟩), .pointer (some ⟨pa + 1, 0, none⟩)], args := #[] }] } w5 := by
  show Leaves _ _ _ _ _ _ _
  refine leaves_cons (f := 59) (args := #[.pointer (some ⟨pa, 0, none⟩), .pointer (some ⟨pa + 1, 0, none⟩)]) (by simp) (by simp [go_sem]) ?_
  refine (door_dies pa (pa + 1) v0 v1 b w5 c0.1 c0.2.1 c0.2.2.1 c0.2.2.2 (by omega)).mono ?_
  rintro e u' w'' ⟨rfl, rfl, rfl⟩
  show Leaves _ _ _ _ [] .returning _
  exact ⟨_, res_two rfl h2 h3 c1.1 c1.2, hR⟩
theorem die_leaf {C : Ctx} {w W : World} {pa : Nat} {v : Value} {acc : List Nd} {q qe F : Nat} {args : Array Value} {R' : Ending → World → Prop} (hm : PM C w pa (pa + 1) v acc q W) (hc : ∀ wx, PM C w pa (pa + 1) v acc q wx → Calls Tryz.prog F args wx fun e w' => DeadF C wx w' qe e)
    (hR : ∀ b w5, (∀ tmps : Array Value, tmps.getD 2 undef = .pointer (some ⟨pa, 0, none⟩) → tmps.getD 3 undef = .pointer (some ⟨pa + 1, 0, none⟩) → bodyPostD Tryz.prog Tryz.f27 (ParseEnd (.error (270, (placeT C.ts C.s.size qe : Int), textT C.ts qe)) w) (.panic [{ v := .iface 23 (.pointer (some ⟨b, 0, none⟩)), recovered := false }]) { tmps := tmps, defers := [{ target := .fn (.func 59) #[.pointer (some ⟨pa, 0, none⟩), .pointer (some ⟨pa + 1, 0, none⟩)], args := #[] }] } w5) → R' (.panicked [{ v := .iface 23 (.pointer (some ⟨b, 0, none⟩)), recovered := false }]) w5) :
    Calls Tryz.prog F args W R' := by
  refine (hc W hm).mono ?_
  rintro e w5 ⟨b, hd1, rfl, hd3, hd4⟩
  refine hR b w5 fun tmps h2 h3 => ?_
  obtain ⟨d1, d2, d3⟩ := die_end (f := (270, (placeT C.ts C.s.size qe : Int), textT C.ts qe)) hm hd1 hd3 hd4
  exact door_end h2 h3 d1 d2 d3
set_option maxHeartbeats 16000000 in
set_option maxRecDepth 100000 in
theorem parse_ok (s : ByteArray) (w : World) (hG : Gl w) (ts : List Tk) (hT : tokensL s.data.toList = .ok ts) :
    Calls Tryz.prog 27 #[.string s] w (ParseEnd (parseT ts s.size) w) := by
  have hmf : ∀ (fn : Fn) (first cap : Array Value) (w : World), (Instr.makeFunc fn first cap).run Tryz.prog w = .ok (.func fn first cap) w := fun _ _ _ _ => rfl
  obtain ⟨i0, hi0, hz0, hz1, hz2⟩ := info_parts Tryz.infoNode
  have c0 := tokens_all s ((w.alloc (.cells #[.slice none 0 0] 22)).alloc (.cells #[.nilIface] 36)) ((hG.below ((Below.refl _ _).alloc (Nat.le_refl _) _)).below ((Below.refl _ _).alloc (Nat.le_refl _) _))
  rw [hT] at c0
  have hA2 : ((w.alloc (.cells #[.slice none 0 0] 22)).alloc (.cells #[.nilIface] 36)).heap[w.heap.size]? = some (.cells #[.slice none 0 0] 22 (0, 0)) := (Below.heap_alloc _ _ _ (by rw [World.size_alloc]; omega)).trans (heap_alloc_new w _)
  have hB2 : ((w.alloc (.cells #[.slice none 0 0] 22)).alloc (.cells #[.nilIface] 36)).heap[w.heap.size + 1]? = some (.cells #[.nilIface] 36 (0, 0)) := by
    have := heap_alloc_new (w.alloc (.cells #[.slice none 0 0] 22)) (.cells #[.nilIface] 36)
    rwa [World.size_alloc] at this
  have hsz : ((w.alloc (.cells #[.slice none 0 0] 22)).alloc (.cells #[.nilIface] 36)).heap.size = w.heap.size + 1 + 1 := by rw [World.size_alloc, World.size_alloc]
  have HF : Hid (∀ w1, Below ((w.alloc (.cells #[.slice none 0 0] 22)).alloc (.cells #[.nilIface] 36)).heap.size ((w.alloc (.cells #[.slice none 0 0] 22)).alloc (.cells #[.nilIface] 36)) w1 → w1.heap[w.heap.size]? = some (.cells #[.slice none 0 0] 22 (0, 0)) ∧ w1.heap[w.heap.size + 1]? = some (.cells #[.nilIface] 36 (0, 0)) ∧ w.heap.size + 1 < w1.heap.size) := fun w1 hb => ⟨(hb.block _ (by rw [hsz]; omega)).trans hA2, (hb.block _ (by rw [hsz]; omega)).trans hB2, by have := hb.size; omega⟩
  have hlen := tokensL_len _ _ hT
  have HLEN := Lib.hid hlen
  clear hG hT hA2 hB2 hsz hlen
  go_enter_defers Tryz.func27, Tryz.ntmps27
  go_wp2_with fail
  refine c0.mono ?_
  clear c0
  rintro e w1 ⟨hb, v, rfl, hown⟩
  obtain ⟨x, c, rfl⟩ := own_shape hown
  obtain ⟨ha, hp, hl⟩ := HF.out w1 hb
  have a1 := cell_of_one ha
  have a2 := free_of_one ha
  have e1 := cell_of_one hp
  have e2 := free_of_one hp
  have HB := Lib.hid hb
  have HO := Lib.hid hown
  have HA := Lib.hid ha
  have HP := Lib.hid hp
  clear hb HF ha hp hown
  go_wp2_with fail
  have hm : PM ⟨s, ts, x, c, w1.heap.size⟩ w w.heap.size (w.heap.size + 1) (.slice none 0 0) [] 0 ((w1.setCell ⟨w.heap.size + 1, 0, none⟩ .nilIface).alloc (.cells #[.string s, .slice x ts.length c, .int .i64 0] 96)) := by
    have ha := HA.out
    have hp := HP.out
    have hb := HB.out
    have ho := HO.out
    have h0 : ∀ j, j < w1.heap.size → j ≠ w.heap.size + 1 → ((w1.setCell ⟨w.heap.size + 1, 0, none⟩ .nilIface).alloc (.cells #[.string s, .slice x ts.length c, .int .i64 0] 96)).heap[j]? = w1.heap[j]? := fun j hj hn =>
      (Below.heap_alloc _ _ _ (by simpa [World.setCell] using hj)).trans (Below.heap_setCell _ _ _ _ hn)
    have hz : (w1.setCell ⟨w.heap.size + 1, 0, none⟩ .nilIface).heap.size = w1.heap.size := by simp [World.setCell]
    have hx : ∀ g, x = some ⟨g, 0, none⟩ → w.heap.size + 1 < g ∧ g < w1.heap.size := fun g hg => by
      subst hg
      have := ho.lt g rfl
      rw [World.size_alloc, World.size_alloc] at this
      exact ⟨by omega, this.2⟩
    refine ⟨(h0 _ (by omega) (by omega)).trans ha, ?_, RowOwn.nil _ _, ⟨?_, ?_, ?_, Nat.zero_le _, HLEN.out⟩, ?_, Nat.le_refl _, by omega, by show _ < w1.heap.size; omega, hx⟩
    · exact (Below.heap_alloc _ _ _ (by rw [hz]; omega)).trans (one_setCell hp)
    · have := heap_alloc_new (w1.setCell ⟨w.heap.size + 1, 0, none⟩ .nilIface) (.cells #[.string s, .slice x ts.length c, .int .i64 0] 96)
      rw [hz] at this
      exact this
    · have ht := tokRow_own ho
      intro i u hu
      obtain ⟨g, r1, r2, r3, r4⟩ := ht i u hu
      have hg := hx g r1
      have hb := h0 g hg.2 (by omega)
      exact ⟨g, r1, (World.cell?_of_block hb).trans r2, (World.cell?_of_block hb).trans r3, (World.cell?_of_block hb).trans r4⟩
    · intro g hg
      have := hx g hg
      show g ≠ w1.heap.size
      omega
    · have h1 : Below w.heap.size w w1 := (((Below.refl _ _).alloc (Nat.le_refl _) _).alloc (by rw [World.size_alloc]; omega) _).trans (hb.mono (by rw [World.size_alloc, World.size_alloc]; omega))
      exact (h1.setCell (p := ⟨w.heap.size + 1, 0, none⟩) (Nat.le_succ _) _).alloc (by rw [hz]; omega) _
  have HM := Lib.hid hm
  have hne : stmtsP ts s.size 8192 8192 [] 0 ≠ .out := (gd_stmts (ts := ts) (L := s.size) (F := 8192) (by have := HLEN.out; omega) 8192 [] 0 (Nat.zero_le _) (by have := HLEN.out; omega)).ne
  obtain ⟨S, hS⟩ : ∃ S, stmtsP ts s.size 8192 8192 [] 0 = S := ⟨_, rfl⟩
  rw [hS] at hne
  have HNE := Lib.hid hne
  have HS := Lib.hid hS
  have HSF : Hid (stmtsP ts s.size 8192 8192 [] 0 = S) := hS
  clear a1 a2 e1 e2 hm HA HP HB HO hne hS hl
  generalize hpb : w1.heap.size = pb at *
  clear hpb
  generalize hpa : w.heap.size = pa at *
  have HPA := Lib.hid hpa
  clear hpa
  go_loopg [] 8192 (fun g wx => ∃ (acc : List Nd) (q : Nat) (va : Option Addr) (m vc : Nat), PM ⟨s, ts, x, c, pb⟩ w pa (pa + 1) (.slice va m vc) acc q wx ∧ Hid (stmtsP ts s.size 8192 g acc q = S) ∧ acc.length + g ≤ 8192)
  case atStart => exact ⟨[], 0, none, 0, 0, HM.out, HS, by simp⟩
  case round =>
    clear HM HS
    obtain ⟨acc, q, va, m, vc, hm, hS, hlen⟩ := hrel
    obtain ⟨g', rfl⟩ : ∃ g', gk = g' + 1 := by
      cases gk with
      | zero => exact absurd hS.out.symm HNE.out
      | succ g' => exact ⟨g', rfl⟩
    have hm0 : acc.length = m := by
      obtain ⟨_, _, hv, _⟩ := hm.row
      cases hv
      rfl
    obtain ⟨⟨a1, a2, e1, e2⟩, p1, p2⟩ := hm.facts
    dsimp only at p1 p2
    by_cases hq : q < ts.length
    · have hS2 := hS.out
      rw [stmtsP_step hq] at hS2
      have hq' : (q : Int) < (ts.length : Int) := by omega
      have HM := Lib.hid hm
      have HS2 := Lib.hid hS2
      have hst0 : stmtP ts s.size 8192 8192 q ≠ .out := fun e => HNE.out (by rw [← hS2, e]; rfl)
      have HC : Hid (∀ wx, PM ⟨s, ts, x, c, pb⟩ w pa (pa + 1) (.slice va m vc) acc q wx → Calls Tryz.prog 60 #[.pointer (some ⟨pb, 0, none⟩)] wx (FinN ⟨s, ts, x, c, pb⟩ wx (stmtP ts s.size 8192 8192 q))) := fun wx hx => stmtP_any ⟨s, ts, x, c, pb⟩ 8192 (Nat.le_refl _) 8192 wx q hx.2.2.2.1 trivial hst0
      clear hS hm hS2
      go_wp2_with fail
      go_quiet (fail)
      go_wp2_with fail
      have a1o : ∀ (n : Nat) (o : Obj), ((wr.drewN n).alloc o).cell? ⟨pa, 0, none⟩ = some (.slice va m vc) := fun n o => al_cell (w := wr.drewN n) a1 o
      cases hst : stmtP ts s.size 8192 8192 q with
      | out => exact absurd hst hst0
      | bad q' =>
        have hR : parseT ts s.size = .error (270, (placeT ts s.size q' : Int), textT ts q') := by
          have h1 := HS2.out
          rw [hst] at h1
          unfold parseT
          rw [HSF.out, ← h1]
          rfl
        rw [hR]
        have c5 : ∀ wx, PM ⟨s, ts, x, c, pb⟩ w pa (pa + 1) (.slice va m vc) acc q wx → Calls Tryz.prog 60 #[.pointer (some ⟨pb, 0, none⟩)] wx fun e w' => DeadF ⟨s, ts, x, c, pb⟩ wx w' q' e := fun wx hx => node_bad (HC.out wx hx) hst
        have C5 := Lib.hid c5
        clear c5 HC HS2 hst hst0 hR
        first | go_region_dies | skip
        all_goals first | (refine die_leaf ?_ C5.out (fun b w5 h => h _ rfl rfl); first | exact HM.out.drewN _ | exact (HM.out.drewN _).below ((Below.refl _ _).alloc (Nat.le_refl _) _))
      | ok nd q' =>
        obtain ⟨k', n', kids, pk⟩ := nd
        have hR2 := HS2.out
        rw [hst] at hR2
        have HR : Hid (stmtsP ts s.size 8192 g' (acc ++ [.mk k' n' kids pk]) q' = S) := hR2
        have c5 : ∀ wx, PM ⟨s, ts, x, c, pb⟩ w pa (pa + 1) (.slice va m vc) acc q wx → _ := fun wx hx => node_p hx (HC.out wx hx) hst
        have C5 := Lib.hid c5
        have HMA : Hid (∀ n, PM ⟨s, ts, x, c, pb⟩ w pa (pa + 1) (.slice va m vc) acc q ((wr.drewN n).alloc (.cells #[.int .i64 0, .string ⟨#[]⟩, .slice none 0 0, .int .i64 0] 53))) := fun n => (HM.out.drewN n).below ((Below.refl _ _).alloc (Nat.le_refl _) _)
        have HCW : Hid (∀ n, _) := fun n => (cell_four_new (wr.drewN n) (.int .i64 0) (.string ⟨#[]⟩) (.slice none 0 0) (.int .i64 0) 53)
        have hmm : m ≤ 8191 := by omega
        have hlw := HM.out.lt
        obtain ⟨_, _, hlw3, hlw4⟩ := hlw
        dsimp only at hlw3 hlw4
        have hin : (m : Int) < m + 1 := by omega
        clear c5 HC HS2 hst hst0 hR2
        refine wp_region_noPanic ?_
        go_region_law (first
          | (go_simp; go_at_call 60; (with_reducible refine (C5.out _ (HM.out.drewN _)).mono ?_); rintro e w5 ⟨y, cc, rfl, hk, hm, ho⟩; obtain ⟨⟨b1, b2, b3, b4⟩, _, _⟩ := hm.facts; have b1o := fun o => al_cell b1 o; obtain ⟨xs, hown, hfl⟩ := hm.2.2.1; rw [hm0] at hown; have HLT := Lib.hid hown.lt; have hxl : xs.length = m * 4 := hown.1; have HPA5 := Lib.hid ((Below.heap_alloc w5 (.cells #[.int .i64 0, .string ⟨#[]⟩, .slice none 0 0, .int .i64 0] 53) pa (World.block_lt_of_cell? w5 _ b1)).trans hm.1); have HOWN := Lib.hid (hown.alloc (.cells #[.int .i64 0, .string ⟨#[]⟩, .slice none 0 0, .int .i64 0] 53)); have HCZ := Lib.hid (cell_four_new w5 (.int .i64 0) (.string ⟨#[]⟩) (.slice none 0 0) (.int .i64 0) 53); have hz5 : w5.heap.size ≤ (w5.alloc (.cells #[.int .i64 0, .string ⟨#[]⟩, .slice none 0 0, .int .i64 0] 53)).heap.size := (by simp); have HW5 := Lib.hid ((Below.refl w5.heap.size w5).alloc (Nat.le_refl _) (.cells #[.int .i64 0, .string ⟨#[]⟩, .slice none 0 0, .int .i64 0] 53)); have hpa5 : pa < w5.heap.size := World.block_lt_of_cell? w5 _ b1; have hpb5 : pb < w5.heap.size := hm.2.2.2.1.lt; have HM5 := Lib.hid hm; have HK := Lib.hid hk; have HFL := Lib.hid hfl; clear hm hk hown hfl ho)
          | (go_simp; go_at_call 60; (with_reducible refine (C5.out _ (HMA.out _)).mono ?_); rintro e w5 ⟨y, cc, rfl, hk, hm, ho⟩; obtain ⟨⟨b1, b2, b3, b4⟩, _, _⟩ := hm.facts; have b1o := fun o => al_cell b1 o; obtain ⟨xs, hown, hfl⟩ := hm.2.2.1; rw [hm0] at hown; have HLT := Lib.hid hown.lt; have hxl : xs.length = m * 4 := hown.1; have HPA5 := Lib.hid hm.1; have HOWN := Lib.hid hown; have HCZ := Lib.hid (new_kept ho (by simp) (by exact Nat.ne_of_gt hlw4) (HCW.out _)); have hz5 : w5.heap.size ≤ w5.heap.size := Nat.le_refl _; have HW5 := Lib.hid (Below.refl w5.heap.size w5); have hpa5 : pa < w5.heap.size := World.block_lt_of_cell? w5 _ b1; have hpb5 : pb < w5.heap.size := hm.2.2.2.1.lt; have HM5 := Lib.hid hm; have HK := Lib.hid hk; have HFL := Lib.hid hfl; clear hm hk hown hfl ho)
          | (refine step_append_lies _ rfl (.tmp 30) (.tmp 34) 22 rfl (pb + 1) 53 i0 (.agg #[.int .i64 0, .string ⟨#[]⟩, .slice none 0 0, .int .i64 0]) 4 56 Tryz.underlying22 hi0 hz0 hz1 hz2 rfl (by decide) (.slice va m vc) m xs (by simp [Act.eval, Act.put]) HOWN.out ⟨w5.heap.size, 0, none⟩ 1 1 [.int .i64 0, .string ⟨#[]⟩, .slice none 0 0, .int .i64 0] (by simp [Act.eval, Act.put]) rfl HCZ.out (fun x hx => by simp at hx; rcases hx with rfl | rfl | rfl | rfl <;> rfl) (by omega) (by unfold maxLen; omega) (by omega) (by omega) _ rfl ?_; intro g cap w6 hown' hgrow hat hlt; have hpx : some pa ≠ (Value.slice va m vc).ownBlock := (fun e => by have := HLT.out pa e.symm; dsimp only at this; omega); have hgp : g ≠ pa := (hat.elim (fun e => by have := HLT.out g e; dsimp only at this; omega) (fun e => by omega)); have hP6 := (hgrow.block pa (by omega) hpx).trans HPA5.out; have hfa := push_facts hP6 hown' hgp hxl; obtain ⟨⟨t0, t1, t2, t3, tf⟩, tb, ⟨d1, d2⟩, bb⟩ := hfa; have tb0 := fun v => (tb v).1; have tb1 := fun v => (tb v).2.1; have tb2 := fun v => (tb v).2.2.1; have tb3 := fun v => (tb v).2.2.2.1; have tbf := fun v => (tb v).2.2.2.2; have bb0 := fun a b c d => (bb a b c d).1; have bbf := fun a b c d => (bb a b c d).2; have HO := Lib.hid hown'; have HG := Lib.hid hgrow; have HAT := Lib.hid hat; clear hown' hgrow hat hP6 tb bb)
          | (refine step_append_lies _ rfl (.tmp 30) (.tmp 34) 22 rfl (pb + 1) 53 i0 (.agg #[.int .i64 0, .string ⟨#[]⟩, .slice none 0 0, .int .i64 0]) 4 56 Tryz.underlying22 hi0 hz0 hz1 hz2 rfl (by decide) (.slice va m vc) m xs (by simp [Act.eval, Act.put]) HOWN.out ⟨wr.heap.size, 0, none⟩ 1 1 [.int .i64 0, .string ⟨#[]⟩, .slice none 0 0, .int .i64 0] (by simp [Act.eval, Act.put]) rfl HCZ.out (fun x hx => by simp at hx; rcases hx with rfl | rfl | rfl | rfl <;> rfl) (by omega) (by unfold maxLen; omega) (by omega) (by omega) _ rfl ?_; intro g cap w6 hown' hgrow hat hlt; have hpx : some pa ≠ (Value.slice va m vc).ownBlock := (fun e => by have := HLT.out pa e.symm; dsimp only at this; omega); have hgp : g ≠ pa := (hat.elim (fun e => by have := HLT.out g e; dsimp only at this; omega) (fun e => by omega)); have hP6 := (hgrow.block pa (by omega) hpx).trans HPA5.out; have hfa := push_facts hP6 hown' hgp hxl; obtain ⟨⟨t0, t1, t2, t3, tf⟩, tb, ⟨d1, d2⟩, bb⟩ := hfa; have tb0 := fun v => (tb v).1; have tb1 := fun v => (tb v).2.1; have tb2 := fun v => (tb v).2.2.1; have tb3 := fun v => (tb v).2.2.2.1; have tbf := fun v => (tb v).2.2.2.2; have bb0 := fun a b c d => (bb a b c d).1; have bbf := fun a b c d => (bb a b c d).2; have HO := Lib.hid hown'; have HG := Lib.hid hgrow; have HAT := Lib.hid hat; clear hown' hgrow hat hP6 tb bb))
        all_goals (
          have hpush := HM5.out.push (k' := k') (n := n') (p := pk) (c := cc) hm0 HK.out HFL.out hxl HLT.out HW5.out HO.out HG.out HAT.out
          have HPU := Lib.hid hpush
          have hgq := Ne.symm hgp
          clear hpush t0 t1 t2 t3 tf tb0 tb1 tb2 tb3 tbf d1 d2 bb0 bbf b1 b2 b3 b4 b1o HO HG HAT HCZ HOWN HPA5 HLT HMA HCW a1 a2 e1 e2 p1 p2 a1o
          refine NoPanic.normal ?_
          go_wp2_with fail
          go_roundg g'
          case measure => omega
          case rel =>
            refine ⟨acc ++ [.mk k' n' kids pk], q', some ⟨g, 0, none⟩, m + 1, cap, ?_, HR, by simp; omega⟩
            first
              | with_reducible exact HPU.out
              | (rw [setCell_far4 _ _ _ _ _ _ _ _ _ hgq]; with_reducible exact HPU.out))
    · have hS2 := hS.out
      rw [stmtsP_end hq] at hS2
      have hq' : ¬ (q : Int) < (ts.length : Int) := by omega
      have HS2 := Lib.hid hS2
      have HM := Lib.hid hm
      clear hS hm hS2
      go_wp2_with fail
      go_quiet (fail)
      go_wp2_with fail
      have hsz : szL acc ≤ ts.length := by
        have h1 : S = .ok acc q := HS2.out.symm
        exact parse_sz (F := 8192) (f := 8192) (L := s.size) (r := q) (by have := HLEN.out; omega) (by have := HLEN.out; omega) (HSF.out.trans h1)
      have hR : parseT ts s.size = match deepL acc 1 with
          | some x => .error (3, x.pos, x.name)
          | none => .ok acc := by
        unfold parseT
        rw [HSF.out, ← HS2.out]
        rfl
      have HPR := Lib.hid hR
      obtain ⟨y0, c0, hv, hrow⟩ := HM.out.row
      cases hv
      have hl0 := HM.out.lt
      have hlen0 := HLEN.out
      have hll := len_szL acc
      have cd := deep_any (fun b => w.heap.size ≤ b) (szL acc + 1) acc (Nat.lt_succ_self _) (LenL.of_sz acc (by omega)) (by omega) 1 (by omega) va vc (wr.drewN nq) (NdRow.mono (w := wr) (w' := wr.drewN nq) (ok := fun b => pb + 1 ≤ b) (fun b hb _ => by dsimp only at hl0; omega) (fun _ _ _ => rfl) _ _ hrow)
      have HMD := Lib.hid (HM.out.drewN nq)
      clear hrow hl0 hR hsz hll hlen0
      rw [hm0] at cd
      refine cd.mono ?_
      clear cd
      rintro e w5 ⟨hb, ⟨hr, rfl⟩ | ⟨nd, b, o, hr, rfl, hat⟩⟩
      · have HPR2 : Hid (parseT ts s.size = .ok acc) := by
          have := HPR.out
          rw [hr] at this
          exact this
        have HM5 := Lib.hid (HMD.out.below hb)
        obtain ⟨⟨b1, b2, b3, b4⟩, _, _⟩ := HM5.out.facts
        clear hb hr a1 a2 e1 e2 p1 p2 HPR
        go_wp2_with fail
        obtain ⟨h1, h2, h3⟩ := ok_end HM5.out
        exact ret_end rfl rfl h1 h2 (by rw [HPR2.out]; exact h3)
      · obtain ⟨k, nm, kids, p⟩ := nd
        have HPR2 : Hid (parseT ts s.size = .error (3, p, nm)) := by
          have := HPR.out
          rw [hr] at this
          exact this
        obtain ⟨_, x0, x1, x3, _⟩ := hat
        have HM5 := Lib.hid (HMD.out.below hb)
        obtain ⟨⟨b1, b2, b3, b4⟩, _, _⟩ := HM5.out.facts
        obtain ⟨i1, i2, i3, hW⟩ := err_end HM5.out (3, p, nm)
        have HW := Lib.hid hW
        have i1a := fun o => (i1 o).1
        have i1b := fun o => (i1 o).2
        have i2a := fun o u => (i2 o u).1
        have i2b := fun o u => (i2 o u).2
        have i3a := fun o u => (i3 o u).1
        have i3b := fun o u => (i3 o u).2
        clear hb hr a1 a2 e1 e2 p1 p2 HPR i1 i2 i3 hW
        go_wp2_with fail
        refine wp_region_noPanic ?_
        go_region
        all_goals (
          refine NoPanic.normal ?_
          clear i1a i1b i2a i2b i3a i3b b1 b2 b3 b4 x0 x1 x3
          go_wp2_with fail
          first
            | (obtain ⟨h1, h2, h3⟩ := HW.out _ (.inl rfl)
               refine ret_end rfl rfl h1 h2 (by rw [HPR2.out]; exact h3))
            | (obtain ⟨h1, h2, h3⟩ := HW.out _ (.inr rfl)
               refine ret_end rfl rfl h1 h2 (by rw [HPR2.out]; exact h3)))
end Go.Proofs.YtpbkeamjdolpgaaGreatDoor
