/- The walk of tree.Parse over a text that has tokens. The walks of tree.statement, tree.Check. The walks of tree.tight; what the printer's functions do. errors.As at a target of *api.Fault, by its contracts: of nil, and of a *api.Fault. After the kit's worked example ToyasAs. errors.Is of a fault and its code. What is known of errors.errorType. The statements' Text: an error's text. The walk of the printer's expr: names, numbers. The walk of the printer's expr: choices. The walk of the printer's expr: parts. The walk of the printer's expr: signs before. The walk of the printer's expr: comparisons. What the Scope rows share: from the listed variables to the facts that the walks ask; a world that meets the condition. -/
import Derived.Test.YtpbkeamjdolpgaaGreatDoorZb04
import Derived.Test.YtpbkeamjdolpgaaGreatDoorZb02
import Derived.RegionDies
import Derived.Deep.RegionWith
import Derived.Deep.RegionLaw
import Derived.Deep.AppendLies
import Derived.Test.YtpbkeamjdolpgaaGreatDoorZb01
import Derived.Defers
import Derived.Lib.QuietBelow
import Derived.LaidEql
import Derived.Stop.Asserts
import Derived.RowKitTokens
import Derived.Test.YtpbkeamjdolpgaaGreatDoorShelfI
import Derived.StillTailTactics
import Derived.Test.YtpbkeamjdolpgaaGreatDoorRows
import Derived.ProofKit
import Derived.ChangeSame
import Derived.ChangeVars
import Derived.JoinedOf
import Derived.RowKit
import Derived.LaidLaws
import Derived.LaidHandle
import Derived.LaidSub
import Derived.PinnedBridge
import Derived.Lay
import Derived.SizedLaws
import Derived.Stop.Joined
import Derived.Lib.LaidU8
import Derived.Lib.LaidRTab
namespace Go.Proofs.YtpbkeamjdolpgaaGreatDoor
open Go.RowKit Go.Lib Go.Shelf

def ParseEnd (R : Except FlI (List Nd)) (w : World) (e : Ending) (w' : World) : Prop :=
  Below w.heap.size w w' ∧ match R with
  | .ok l => ∃ y c, e = .returned (.tuple #[.slice y l.length c, .nilIface]) ∧ NdRow w' (fun b => w.heap.size ≤ b) l y ∧ l.length ≤ c
  | .error f => ∃ b, w.heap.size ≤ b ∧ e = .returned (.tuple #[.slice none 0 0, .iface 23 (.pointer (some ⟨b, 0, none⟩))]) ∧ w'.heap[b]? = some (.cells #[.int .i64 f.1, .int .i64 f.2.1, .string ⟨f.2.2.toArray⟩] 61 (0, 0))
theorem stmtsP_step {ts : List Tk} {L F g : Nat} {acc : List Nd} {q : Nat} (h : q < ts.length) : stmtsP ts L F (g + 1) acc q = (stmtP ts L F F q).bind fun x r => stmtsP ts L F g (acc ++ [x]) r := by
  rw [stmtsP, if_neg (by omega)]
theorem stmtsP_end {ts : List Tk} {L F g : Nat} {acc : List Nd} {q : Nat} (h : ¬ q < ts.length) : stmtsP ts L F (g + 1) acc q = .ok acc q := by
  rw [stmtsP, if_pos (by omega)]
theorem die_end {C : Ctx} {w wx w5 : World} {pa : Nat} {v : Value} {acc : List Nd} {q b : Nat} {f : FlI} (hm : PM C w pa (pa + 1) v acc q wx) (hb : wx.heap.size ≤ b) (hf : w5.heap[b]? = some (.cells #[.int .i64 f.1, .int .i64 f.2.1, .string ⟨f.2.2.toArray⟩] 61 (0, 0))) (ho : Ow C.pb wx w5) :
    (w5.cell? ⟨pa, 0, none⟩ = some v ∧ w5.frozen? ⟨pa, 0, none⟩ = false ∧ w5.cell? ⟨pa + 1, 0, none⟩ = some .nilIface ∧ w5.frozen? ⟨pa + 1, 0, none⟩ = false) ∧
    (((w5.setCell ⟨pa, 0, none⟩ (.slice none 0 0)).setCell ⟨pa + 1, 0, none⟩ (.iface 23 (.pointer (some ⟨b, 0, none⟩)))).cell? ⟨pa, 0, none⟩ = some (.slice none 0 0) ∧ ((w5.setCell ⟨pa, 0, none⟩ (.slice none 0 0)).setCell ⟨pa + 1, 0, none⟩ (.iface 23 (.pointer (some ⟨b, 0, none⟩)))).cell? ⟨pa + 1, 0, none⟩ = some (.iface 23 (.pointer (some ⟨b, 0, none⟩)))) ∧
    ParseEnd (.error f) w (.returned (.tuple #[.slice none 0 0, .iface 23 (.pointer (some ⟨b, 0, none⟩))])) ((w5.setCell ⟨pa, 0, none⟩ (.slice none 0 0)).setCell ⟨pa + 1, 0, none⟩ (.iface 23 (.pointer (some ⟨b, 0, none⟩)))) := by
  obtain ⟨h1, h2, h3, h4, h5, h6, h7, h8, h9⟩ := hm
  have hl := h4.lt
  have k1 : w5.heap[pa]? = some (.cells #[v] 22 (0, 0)) := (ho.block pa (by omega) (by omega)).trans h1
  have k2 : w5.heap[pa + 1]? = some (.cells #[.nilIface] 36 (0, 0)) := (ho.block (pa + 1) (by omega) (by omega)).trans h2
  have hz := h5.size
  refine ⟨⟨cell_of_one k1, free_of_one k1, cell_of_one k2, free_of_one k2⟩, ⟨?_, ?_⟩, ?_, b, by omega, rfl, ?_⟩
  · exact cell_of_one (t := 22) ((Below.heap_setCell _ _ _ _ (show pa ≠ pa + 1 by omega)).trans (one_setCell k1))
  · exact cell_of_one (t := 36) (one_setCell ((Below.heap_setCell _ _ _ _ (show pa + 1 ≠ pa by omega)).trans k2))
  · exact ((h5.trans (ho.toBelow (by omega) hz)).setCell (p := ⟨pa, 0, none⟩) h6 _).setCell (p := ⟨pa + 1, 0, none⟩) (by show w.heap.size ≤ pa + 1; omega) _
  · exact ((Below.heap_setCell _ _ _ _ (show b ≠ pa + 1 by omega)).trans (Below.heap_setCell _ _ _ _ (show b ≠ pa by omega))).trans hf
mutual
theorem LenN.of_sz : ∀ (x : Nd), szN x < 2 ^ 62 → LenN x
  | .mk _ _ kids _, h => by
    rw [szN_mk] at h
    have := len_szL kids
    exact ⟨by omega, LenL.of_sz kids (by omega)⟩
theorem LenL.of_sz : ∀ (l : List Nd), szL l < 2 ^ 62 → LenL l
  | [], _ => trivial
  | x :: r, h => by
    have h' : szN x + szL r < 2 ^ 62 := h
    exact ⟨LenN.of_sz x (by omega), LenL.of_sz r (by omega)⟩
end
theorem new_kept {b : Nat} {wx w5 : World} {k : Nat} {xs : List Value} (ho : Ow b wx w5) (_hk : k < wx.heap.size) (hn : k ≠ b) (h : ∀ j u, xs[j]? = some u → wx.cell? ((⟨k, 0, none⟩ : Addr).add j) = some u) : ∀ j u, xs[j]? = some u → w5.cell? ((⟨k, 0, none⟩ : Addr).add j) = some u := by
  intro j u hj
  have := h j u hj
  rw [Addr.add_lit] at this ⊢
  exact ho.cell hn this
theorem err_end {C : Ctx} {w w5 : World} {pa : Nat} {v : Value} {acc : List Nd} {q : Nat} (hm : PM C w pa (pa + 1) v acc q w5) (f : FlI) :
    (∀ o, (w5.alloc o).cell? ⟨pa, 0, none⟩ = some v ∧ (w5.alloc o).frozen? ⟨pa, 0, none⟩ = false) ∧
    (∀ o u, ((w5.setCell ⟨pa, 0, none⟩ u).alloc o).cell? ⟨pa + 1, 0, none⟩ = some .nilIface ∧ ((w5.setCell ⟨pa, 0, none⟩ u).alloc o).frozen? ⟨pa + 1, 0, none⟩ = false) ∧
    (∀ o u, ((w5.alloc o).setCell ⟨pa, 0, none⟩ u).cell? ⟨pa + 1, 0, none⟩ = some .nilIface ∧ ((w5.alloc o).setCell ⟨pa, 0, none⟩ u).frozen? ⟨pa + 1, 0, none⟩ = false) ∧
    (∀ W : World, (W = (((w5.setCell ⟨pa, 0, none⟩ (.slice none 0 0)).alloc (.cells #[.int .i64 f.1, .int .i64 f.2.1, .string ⟨f.2.2.toArray⟩] 61)).setCell ⟨pa + 1, 0, none⟩ (.iface 23 (.pointer (some ⟨w5.heap.size, 0, none⟩)))).drew ∨ W = (((w5.alloc (.cells #[.int .i64 f.1, .int .i64 f.2.1, .string ⟨f.2.2.toArray⟩] 61)).setCell ⟨pa, 0, none⟩ (.slice none 0 0)).setCell ⟨pa + 1, 0, none⟩ (.iface 23 (.pointer (some ⟨w5.heap.size, 0, none⟩)))).drew) →
      W.cell? ⟨pa, 0, none⟩ = some (.slice none 0 0) ∧ W.cell? ⟨pa + 1, 0, none⟩ = some (.iface 23 (.pointer (some ⟨w5.heap.size, 0, none⟩))) ∧ ParseEnd (.error f) w (.returned (.tuple #[.slice none 0 0, .iface 23 (.pointer (some ⟨w5.heap.size, 0, none⟩))])) W) := by
  have hlt := hm.lt
  obtain ⟨h1, h2, h3, h4, h5, h6, h7, h8, h9⟩ := hm
  have hz := h5.size
  have ha : ∀ o, (w5.alloc o).heap[pa]? = some (.cells #[v] 22 (0, 0)) := fun o => (Below.heap_alloc _ _ _ (by omega)).trans h1
  have he : ∀ o, (w5.alloc o).heap[pa + 1]? = some (.cells #[.nilIface] 36 (0, 0)) := fun o => (Below.heap_alloc _ _ _ (by omega)).trans h2
  have hsz : ∀ u, (w5.setCell ⟨pa, 0, none⟩ u).heap.size = w5.heap.size := fun u => by simp [World.setCell]
  have hs : ∀ u, (w5.setCell ⟨pa, 0, none⟩ u).heap[pa + 1]? = some (.cells #[.nilIface] 36 (0, 0)) := fun u => (Below.heap_setCell _ _ _ _ (show pa + 1 ≠ pa by omega)).trans h2
  have hs2 : ∀ o u, ((w5.setCell ⟨pa, 0, none⟩ u).alloc o).heap[pa + 1]? = some (.cells #[.nilIface] 36 (0, 0)) := fun o u => (Below.heap_alloc _ _ _ (by rw [hsz]; omega)).trans (hs u)
  have hs3 : ∀ o u, ((w5.alloc o).setCell ⟨pa, 0, none⟩ u).heap[pa + 1]? = some (.cells #[.nilIface] 36 (0, 0)) := fun o u => (Below.heap_setCell _ _ _ _ (show pa + 1 ≠ pa by omega)).trans (he o)
  refine ⟨fun o => ⟨cell_of_one (ha o), free_of_one (ha o)⟩, fun o u => ⟨cell_of_one (hs2 o u), free_of_one (hs2 o u)⟩, fun o u => ⟨cell_of_one (hs3 o u), free_of_one (hs3 o u)⟩, ?_⟩
  rintro W (rfl | rfl)
  · refine ⟨?_, ?_, (((h5.setCell (p := ⟨pa, 0, none⟩) h6 _).alloc (by rw [hsz]; omega) _).setCell (p := ⟨pa + 1, 0, none⟩) (by show w.heap.size ≤ pa + 1; omega) _).drew, w5.heap.size, hz, rfl, ?_⟩
    · exact cell_of_one (t := 22) ((Below.heap_setCell _ _ _ _ (show pa ≠ pa + 1 by omega)).trans ((Below.heap_alloc _ _ _ (by rw [hsz]; omega)).trans (one_setCell h1)))
    · exact cell_of_one (t := 36) (one_setCell (hs2 _ _))
    · have := heap_alloc_new (w5.setCell ⟨pa, 0, none⟩ (.slice none 0 0)) (.cells #[.int .i64 f.1, .int .i64 f.2.1, .string ⟨f.2.2.toArray⟩] 61)
      rw [hsz] at this
      exact (Below.heap_setCell _ _ _ _ (show w5.heap.size ≠ pa + 1 by omega)).trans this
  · refine ⟨?_, ?_, (((h5.alloc (by omega) _).setCell (p := ⟨pa, 0, none⟩) h6 _).setCell (p := ⟨pa + 1, 0, none⟩) (by show w.heap.size ≤ pa + 1; omega) _).drew, w5.heap.size, hz, rfl, ?_⟩
    · exact cell_of_one (t := 22) ((Below.heap_setCell _ _ _ _ (show pa ≠ pa + 1 by omega)).trans (one_setCell (ha _)))
    · exact cell_of_one (t := 36) (one_setCell (hs3 _ _))
    · exact (Below.heap_setCell _ _ _ _ (show w5.heap.size ≠ pa + 1 by omega)).trans ((Below.heap_setCell _ _ _ _ (show w5.heap.size ≠ pa by omega)).trans (heap_alloc_new _ _))
theorem ret_end {R : Ending → World → Prop} {pa : Nat} {v0 v1 : Value} {W : World} {tmps : Array Value} (h2 : tmps.getD 2 undef = .pointer (some ⟨pa, 0, none⟩)) (h3 : tmps.getD 3 undef = .pointer (some ⟨pa + 1, 0, none⟩)) (c0 : W.cell? ⟨pa, 0, none⟩ = some v0) (c1 : W.cell? ⟨pa + 1, 0, none⟩ = some v1) (hR : R (.returned (.tuple #[v0, v1])) W) :
    bodyPostD Tryz.prog Tryz.f27 R .ret { tmps := tmps, defers := [{ target := .fn (.func 59) #[.pointer (some ⟨pa, 0, none⟩), .pointer (some ⟨pa + 1, 0, none⟩)], args := #[] }] } W := by
  show Leaves _ _ _ _ _ _ _
  refine leaves_cons (f := 59) (args := #[.pointer (some ⟨pa, 0, none⟩), .pointer (some ⟨pa + 1, 0, none⟩)]) (by simp) (by simp [go_sem]) ?_
  refine (door_idle pa (pa + 1) W).mono ?_
  rintro e u' w'' ⟨rfl, rfl, rfl⟩
  show Leaves _ _ _ _ [] .returning _
  exact ⟨_, res_two rfl h2 h3 c0 c1, hR⟩
theorem ok_end {C : Ctx} {w w5 : World} {pa : Nat} {va : Option Addr} {vc : Nat} {acc : List Nd} {q : Nat} (hm : PM C w pa (pa + 1) (.slice va acc.length vc) acc q w5) :
    ((w5.setCell ⟨pa, 0, none⟩ (.slice va acc.length vc)).setCell ⟨pa + 1, 0, none⟩ .nilIface).cell? ⟨pa, 0, none⟩ = some (.slice va acc.length vc) ∧ ((w5.setCell ⟨pa, 0, none⟩ (.slice va acc.length vc)).setCell ⟨pa + 1, 0, none⟩ .nilIface).cell? ⟨pa + 1, 0, none⟩ = some .nilIface ∧
    ParseEnd (.ok acc) w (.returned (.tuple #[.slice va acc.length vc, .nilIface])) ((w5.setCell ⟨pa, 0, none⟩ (.slice va acc.length vc)).setCell ⟨pa + 1, 0, none⟩ .nilIface) := by
  obtain ⟨y, c, hv, hrow⟩ := hm.row
  cases hv
  have hcap : acc.length ≤ vc := by
    obtain ⟨xs, hx, _⟩ := hm.2.2.1
    exact own_cap hx
  obtain ⟨h1, h2, h3, h4, h5, h6, h7, h8, h9⟩ := hm
  have hz := h5.size
  refine ⟨?_, ?_, (h5.setCell (p := ⟨pa, 0, none⟩) h6 _).setCell (p := ⟨pa + 1, 0, none⟩) (by show w.heap.size ≤ pa + 1; omega) _, va, vc, rfl, ?_, hcap⟩
  · exact cell_of_one (t := 22) ((Below.heap_setCell _ _ _ _ (show pa ≠ pa + 1 by omega)).trans (one_setCell h1))
  · exact cell_of_one (t := 36) (one_setCell ((Below.heap_setCell _ _ _ _ (show pa + 1 ≠ pa by omega)).trans h2))
  · exact ((hrow.set (fun b hb => by omega)).set (fun b hb => by omega)).wide fun b hb _ => by omega
theorem door_end {R : Ending → World → Prop} {pa b : Nat} {v0 v1 : Value} {w5 : World} {tmps : Array Value} (h2 : tmps.getD 2 undef = .pointer (some ⟨pa, 0, none⟩)) (h3 : tmps.getD 3 undef = .pointer (some ⟨pa + 1, 0, none⟩))
    (c0 : w5.cell? ⟨pa, 0, none⟩ = some v0 ∧ w5.frozen? ⟨pa, 0, none⟩ = false ∧ w5.cell? ⟨pa + 1, 0, none⟩ = some v1 ∧ w5.frozen? ⟨pa + 1, 0, none⟩ = false)
    (c1 : ((w5.setCell ⟨pa, 0, none⟩ (.slice none 0 0)).setCell ⟨pa + 1, 0, none⟩ (.iface 23 (.pointer (some ⟨b, 0, none⟩)))).cell? ⟨pa, 0, none⟩ = some (.slice none 0 0) ∧ ((w5.setCell ⟨pa, 0, none⟩ (.slice none 0 0)).setCell ⟨pa + 1, 0, none⟩ (.iface 23 (.pointer (some ⟨b, 0, none⟩)))).cell? ⟨pa + 1, 0, none⟩ = some (.iface 23 (.pointer (some ⟨b, 0, none⟩))))
    (hR : R (.returned (.tuple #[.slice none 0 0, .iface 23 (.pointer (some ⟨b, 0, none⟩))])) ((w5.setCell ⟨pa, 0, none⟩ (.slice none 0 0)).setCell ⟨pa + 1, 0, none⟩ (.iface 23 (.pointer (some ⟨b, 0, none⟩))))) :
    bodyPostD Tryz.prog Tryz.f27 R (.panic [{ v := .iface 23 (.pointer (some ⟨b, 0, none⟩)), recovered := false }]) { tmps := tmps, defers := [{ target := .fn (.func 59) #[.pointer (some ⟨pa, 0, none⟩), .pointer (some ⟨pa + 1, 0, none⟩)], args := #[] }] } w5 := by
  show Leaves _ _ _ _ _ _ _
  refine leaves_cons (f := 59) (args := #[.pointer (some ⟨pa, 0, none⟩), .pointer (some ⟨pa + 1, 0, none⟩)]) (by simp) (by simp [go_sem]) ?_
  refine (door_dies pa (pa + 1) v0 v1 b w5 c0.1 c0.2.1 c0.2.2.1 c0.2.2.2 (by omega)).mono ?_
  rintro e u' w'' ⟨rfl, rfl, rfl⟩
  show Leaves _ _ _ _ [] .returning _
  exact ⟨_, res_two rfl h2 h3 c1.1 c1.2, hR⟩
theorem die_leaf {C : Ctx} {w W : World} {pa : Nat} {v : Value} {acc : List Nd} {q qe F : Nat} {args : Array Value} {R' : Ending → World → Prop} (hm : PM C w pa (pa + 1) v acc q W) (hc : ∀ wx, PM C w pa (pa + 1) v acc q wx → Calls Tryz.prog F args wx fun e w' => DeadF C wx w' qe e)
    (hR : ∀ b w5, (∀ tmps : Array Value, tmps.getD 2 undef = .pointer (some ⟨pa, 0, none⟩) → tmps.getD 3 undef = .pointer (some ⟨pa + 1, 0, none⟩) → bodyPostD Tryz.prog Tryz.f27 (ParseEnd (.error (270, (placeT C.ts C.s.size qe : Int), textT C.ts qe)) w) (.panic [{ v := .iface 23 (.pointer (some ⟨b, 0, none⟩)), recovered := false }]) { tmps := tmps, defers := [{ target := .fn (.func 59) #[.pointer (some ⟨pa, 0, none⟩), .pointer (some ⟨pa + 1, 0, none⟩)], args := #[] }] } w5) → R' (.panicked [{ v := .iface 23 (.pointer (some ⟨b, 0, none⟩)), recovered := false }]) w5) :
    Calls Tryz.prog F args W R' := by
  refine (hc W hm).mono ?_
  rintro e w5 ⟨b, hd1, rfl, hd3, hd4⟩
  refine hR b w5 fun tmps h2 h3 => ?_
  obtain ⟨d1, d2, d3⟩ := die_end (f := (270, (placeT C.ts C.s.size qe : Int), textT C.ts qe)) hm hd1 hd3 hd4
  exact door_end h2 h3 d1 d2 d3
set_option maxHeartbeats 16000000 in
set_option maxRecDepth 100000 in
theorem parse_ok (s : ByteArray) (w : World) (hG : Gl w) (ts : List Tk) (hT : tokensL s.data.toList = .ok ts) :
    Calls Tryz.prog 27 #[.string s] w (ParseEnd (parseT ts s.size) w) := by
  have hmf : ∀ (fn : Fn) (first cap : Array Value) (w : World), (Instr.makeFunc fn first cap).run Tryz.prog w = .ok (.func fn first cap) w := fun _ _ _ _ => rfl
  obtain ⟨i0, hi0, hz0, hz1, hz2⟩ := info_parts Tryz.infoNode
  have c0 := tokens_all s ((w.alloc (.cells #[.slice none 0 0] 22)).alloc (.cells #[.nilIface] 36)) ((hG.below ((Below.refl _ _).alloc (Nat.le_refl _) _)).below ((Below.refl _ _).alloc (Nat.le_refl _) _))
  rw [hT] at c0
  have hA2 : ((w.alloc (.cells #[.slice none 0 0] 22)).alloc (.cells #[.nilIface] 36)).heap[w.heap.size]? = some (.cells #[.slice none 0 0] 22 (0, 0)) := (Below.heap_alloc _ _ _ (by rw [World.size_alloc]; omega)).trans (heap_alloc_new w _)
  have hB2 : ((w.alloc (.cells #[.slice none 0 0] 22)).alloc (.cells #[.nilIface] 36)).heap[w.heap.size + 1]? = some (.cells #[.nilIface] 36 (0, 0)) := by
    have := heap_alloc_new (w.alloc (.cells #[.slice none 0 0] 22)) (.cells #[.nilIface] 36)
    rwa [World.size_alloc] at this
  have hsz : ((w.alloc (.cells #[.slice none 0 0] 22)).alloc (.cells #[.nilIface] 36)).heap.size = w.heap.size + 1 + 1 := by rw [World.size_alloc, World.size_alloc]
  have HF : Hid (∀ w1, Below ((w.alloc (.cells #[.slice none 0 0] 22)).alloc (.cells #[.nilIface] 36)).heap.size ((w.alloc (.cells #[.slice none 0 0] 22)).alloc (.cells #[.nilIface] 36)) w1 → w1.heap[w.heap.size]? = some (.cells #[.slice none 0 0] 22 (0, 0)) ∧ w1.heap[w.heap.size + 1]? = some (.cells #[.nilIface] 36 (0, 0)) ∧ w.heap.size + 1 < w1.heap.size) := fun w1 hb => ⟨(hb.block _ (by rw [hsz]; omega)).trans hA2, (hb.block _ (by rw [hsz]; omega)).trans hB2, by have := hb.size; omega⟩
  have hlen := tokensL_len _ _ hT
  have HLEN := Lib.hid hlen
  clear hG hT hA2 hB2 hsz hlen
  go_enter_defers Tryz.func27, Tryz.ntmps27
  go_wp2_with fail
  refine c0.mono ?_
  clear c0
  rintro e w1 ⟨hb, v, rfl, hown⟩
  obtain ⟨x, c, rfl⟩ := own_shape hown
  obtain ⟨ha, hp, hl⟩ := HF.out w1 hb
  have a1 := cell_of_one ha
  have a2 := free_of_one ha
  have e1 := cell_of_one hp
  have e2 := free_of_one hp
  have HB := Lib.hid hb
  have HO := Lib.hid hown
  have HA := Lib.hid ha
  have HP := Lib.hid hp
  clear hb HF ha hp hown
  go_wp2_with fail
  have hm : PM ⟨s, ts, x, c, w1.heap.size⟩ w w.heap.size (w.heap.size + 1) (.slice none 0 0) [] 0 ((w1.setCell ⟨w.heap.size + 1, 0, none⟩ .nilIface).alloc (.cells #[.string s, .slice x ts.length c, .int .i64 0] 96)) := by
    have ha := HA.out
    have hp := HP.out
    have hb := HB.out
    have ho := HO.out
    have h0 : ∀ j, j < w1.heap.size → j ≠ w.heap.size + 1 → ((w1.setCell ⟨w.heap.size + 1, 0, none⟩ .nilIface).alloc (.cells #[.string s, .slice x ts.length c, .int .i64 0] 96)).heap[j]? = w1.heap[j]? := fun j hj hn =>
      (Below.heap_alloc _ _ _ (by simpa [World.setCell] using hj)).trans (Below.heap_setCell _ _ _ _ hn)
    have hz : (w1.setCell ⟨w.heap.size + 1, 0, none⟩ .nilIface).heap.size = w1.heap.size := by simp [World.setCell]
    have hx : ∀ g, x = some ⟨g, 0, none⟩ → w.heap.size + 1 < g ∧ g < w1.heap.size := fun g hg => by
      subst hg
      have := ho.lt g rfl
      rw [World.size_alloc, World.size_alloc] at this
      exact ⟨by omega, this.2⟩
    refine ⟨(h0 _ (by omega) (by omega)).trans ha, ?_, RowOwn.nil _ _, ⟨?_, ?_, ?_, Nat.zero_le _, HLEN.out⟩, ?_, Nat.le_refl _, by omega, by show _ < w1.heap.size; omega, hx⟩
    · exact (Below.heap_alloc _ _ _ (by rw [hz]; omega)).trans (one_setCell hp)
    · have := heap_alloc_new (w1.setCell ⟨w.heap.size + 1, 0, none⟩ .nilIface) (.cells #[.string s, .slice x ts.length c, .int .i64 0] 96)
      rw [hz] at this
      exact this
    · have ht := tokRow_own ho
      intro i u hu
      obtain ⟨g, r1, r2, r3, r4⟩ := ht i u hu
      have hg := hx g r1
      have hb := h0 g hg.2 (by omega)
      exact ⟨g, r1, (World.cell?_of_block hb).trans r2, (World.cell?_of_block hb).trans r3, (World.cell?_of_block hb).trans r4⟩
    · intro g hg
      have := hx g hg
      show g ≠ w1.heap.size
      omega
    · have h1 : Below w.heap.size w w1 := (((Below.refl _ _).alloc (Nat.le_refl _) _).alloc (by rw [World.size_alloc]; omega) _).trans (hb.mono (by rw [World.size_alloc, World.size_alloc]; omega))
      exact (h1.setCell (p := ⟨w.heap.size + 1, 0, none⟩) (Nat.le_succ _) _).alloc (by rw [hz]; omega) _
  have HM := Lib.hid hm
  have hne : stmtsP ts s.size 8192 8192 [] 0 ≠ .out := (gd_stmts (ts := ts) (L := s.size) (F := 8192) (by have := HLEN.out; omega) 8192 [] 0 (Nat.zero_le _) (by have := HLEN.out; omega)).ne
  obtain ⟨S, hS⟩ : ∃ S, stmtsP ts s.size 8192 8192 [] 0 = S := ⟨_, rfl⟩
  rw [hS] at hne
  have HNE := Lib.hid hne
  have HS := Lib.hid hS
  have HSF : Hid (stmtsP ts s.size 8192 8192 [] 0 = S) := hS
  clear a1 a2 e1 e2 hm HA HP HB HO hne hS hl
  generalize hpb : w1.heap.size = pb at *
  clear hpb
  generalize hpa : w.heap.size = pa at *
  have HPA := Lib.hid hpa
  clear hpa
  go_loopg [] 8192 (fun g wx => ∃ (acc : List Nd) (q : Nat) (va : Option Addr) (m vc : Nat), PM ⟨s, ts, x, c, pb⟩ w pa (pa + 1) (.slice va m vc) acc q wx ∧ Hid (stmtsP ts s.size 8192 g acc q = S) ∧ acc.length + g ≤ 8192)
  case atStart => exact ⟨[], 0, none, 0, 0, HM.out, HS, by simp⟩
  case round =>
    clear HM HS
    obtain ⟨acc, q, va, m, vc, hm, hS, hlen⟩ := hrel
    obtain ⟨g', rfl⟩ : ∃ g', gk = g' + 1 := by
      cases gk with
      | zero => exact absurd hS.out.symm HNE.out
      | succ g' => exact ⟨g', rfl⟩
    have hm0 : acc.length = m := by
      obtain ⟨_, _, hv, _⟩ := hm.row
      cases hv
      rfl
    obtain ⟨⟨a1, a2, e1, e2⟩, p1, p2⟩ := hm.facts
    dsimp only at p1 p2
    by_cases hq : q < ts.length
    · have hS2 := hS.out
      rw [stmtsP_step hq] at hS2
      have hq' : (q : Int) < (ts.length : Int) := by omega
      have HM := Lib.hid hm
      have HS2 := Lib.hid hS2
      have hst0 : stmtP ts s.size 8192 8192 q ≠ .out := fun e => HNE.out (by rw [← hS2, e]; rfl)
      have HC : Hid (∀ wx, PM ⟨s, ts, x, c, pb⟩ w pa (pa + 1) (.slice va m vc) acc q wx → Calls Tryz.prog 60 #[.pointer (some ⟨pb, 0, none⟩)] wx (FinN ⟨s, ts, x, c, pb⟩ wx (stmtP ts s.size 8192 8192 q))) := fun wx hx => stmtP_any ⟨s, ts, x, c, pb⟩ 8192 (Nat.le_refl _) 8192 wx q hx.2.2.2.1 trivial hst0
      clear hS hm hS2
      go_wp2_with fail
      go_quiet (fail)
      go_wp2_with fail
      have a1o : ∀ (n : Nat) (o : Obj), ((wr.drewN n).alloc o).cell? ⟨pa, 0, none⟩ = some (.slice va m vc) := fun n o => al_cell (w := wr.drewN n) a1 o
      cases hst : stmtP ts s.size 8192 8192 q with
      | out => exact absurd hst hst0
      | bad q' =>
        have hR : parseT ts s.size = .error (270, (placeT ts s.size q' : Int), textT ts q') := by
          have h1 := HS2.out
          rw [hst] at h1
          unfold parseT
          rw [HSF.out, ← h1]
          rfl
        rw [hR]
        have c5 : ∀ wx, PM ⟨s, ts, x, c, pb⟩ w pa (pa + 1) (.slice va m vc) acc q wx → Calls Tryz.prog 60 #[.pointer (some ⟨pb, 0, none⟩)] wx fun e w' => DeadF ⟨s, ts, x, c, pb⟩ wx w' q' e := fun wx hx => node_bad (HC.out wx hx) hst
        have C5 := Lib.hid c5
        clear c5 HC HS2 hst hst0 hR
        first | go_region_dies | skip
        all_goals first | (refine die_leaf ?_ C5.out (fun b w5 h => h _ rfl rfl); first | exact HM.out.drewN _ | exact (HM.out.drewN _).below ((Below.refl _ _).alloc (Nat.le_refl _) _))
      | ok nd q' =>
        obtain ⟨k', n', kids, pk⟩ := nd
        have hR2 := HS2.out
        rw [hst] at hR2
        have HR : Hid (stmtsP ts s.size 8192 g' (acc ++ [.mk k' n' kids pk]) q' = S) := hR2
        have c5 : ∀ wx, PM ⟨s, ts, x, c, pb⟩ w pa (pa + 1) (.slice va m vc) acc q wx → _ := fun wx hx => node_p hx (HC.out wx hx) hst
        have C5 := Lib.hid c5
        have HMA : Hid (∀ n, PM ⟨s, ts, x, c, pb⟩ w pa (pa + 1) (.slice va m vc) acc q ((wr.drewN n).alloc (.cells #[.int .i64 0, .string ⟨#[]⟩, .slice none 0 0, .int .i64 0] 53))) := fun n => (HM.out.drewN n).below ((Below.refl _ _).alloc (Nat.le_refl _) _)
        have HCW : Hid (∀ n, _) := fun n => (cell_four_new (wr.drewN n) (.int .i64 0) (.string ⟨#[]⟩) (.slice none 0 0) (.int .i64 0) 53)
        have hmm : m ≤ 8191 := by omega
        have hlw := HM.out.lt
        obtain ⟨_, _, hlw3, hlw4⟩ := hlw
        dsimp only at hlw3 hlw4
        have hin : (m : Int) < m + 1 := by omega
        clear c5 HC HS2 hst hst0 hR2
        refine wp_region_noPanic ?_
        go_region_law (first
          | (go_simp; go_at_call 60; (with_reducible refine (C5.out _ (HM.out.drewN _)).mono ?_); rintro e w5 ⟨y, cc, rfl, hk, hm, ho⟩; obtain ⟨⟨b1, b2, b3, b4⟩, _, _⟩ := hm.facts; have b1o := fun o => al_cell b1 o; obtain ⟨xs, hown, hfl⟩ := hm.2.2.1; rw [hm0] at hown; have HLT := Lib.hid hown.lt; have hxl : xs.length = m * 4 := hown.1; have HPA5 := Lib.hid ((Below.heap_alloc w5 (.cells #[.int .i64 0, .string ⟨#[]⟩, .slice none 0 0, .int .i64 0] 53) pa (World.block_lt_of_cell? w5 _ b1)).trans hm.1); have HOWN := Lib.hid (hown.alloc (.cells #[.int .i64 0, .string ⟨#[]⟩, .slice none 0 0, .int .i64 0] 53)); have HCZ := Lib.hid (cell_four_new w5 (.int .i64 0) (.string ⟨#[]⟩) (.slice none 0 0) (.int .i64 0) 53); have hz5 : w5.heap.size ≤ (w5.alloc (.cells #[.int .i64 0, .string ⟨#[]⟩, .slice none 0 0, .int .i64 0] 53)).heap.size := (by simp); have HW5 := Lib.hid ((Below.refl w5.heap.size w5).alloc (Nat.le_refl _) (.cells #[.int .i64 0, .string ⟨#[]⟩, .slice none 0 0, .int .i64 0] 53)); have hpa5 : pa < w5.heap.size := World.block_lt_of_cell? w5 _ b1; have hpb5 : pb < w5.heap.size := hm.2.2.2.1.lt; have HM5 := Lib.hid hm; have HK := Lib.hid hk; have HFL := Lib.hid hfl; clear hm hk hown hfl ho)
          | (go_simp; go_at_call 60; (with_reducible refine (C5.out _ (HMA.out _)).mono ?_); rintro e w5 ⟨y, cc, rfl, hk, hm, ho⟩; obtain ⟨⟨b1, b2, b3, b4⟩, _, _⟩ := hm.facts; have b1o := fun o => al_cell b1 o; obtain ⟨xs, hown, hfl⟩ := hm.2.2.1; rw [hm0] at hown; have HLT := Lib.hid hown.lt; have hxl : xs.length = m * 4 := hown.1; have HPA5 := Lib.hid hm.1; have HOWN := Lib.hid hown; have HCZ := Lib.hid (new_kept ho (by simp) (by exact Nat.ne_of_gt hlw4) (HCW.out _)); have hz5 : w5.heap.size ≤ w5.heap.size := Nat.le_refl _; have HW5 := Lib.hid (Below.refl w5.heap.size w5); have hpa5 : pa < w5.heap.size := World.block_lt_of_cell? w5 _ b1; have hpb5 : pb < w5.heap.size := hm.2.2.2.1.lt; have HM5 := Lib.hid hm; have HK := Lib.hid hk; have HFL := Lib.hid hfl; clear hm hk hown hfl ho)
          | (refine step_append_lies _ rfl (.tmp 30) (.tmp 34) 22 rfl (pb + 1) 53 i0 (.agg #[.int .i64 0, .string ⟨#[]⟩, .slice none 0 0, .int .i64 0]) 4 56 Tryz.underlying22 hi0 hz0 hz1 hz2 rfl (by decide) (.slice va m vc) m xs (by simp [Act.eval, Act.put]) HOWN.out ⟨w5.heap.size, 0, none⟩ 1 1 [.int .i64 0, .string ⟨#[]⟩, .slice none 0 0, .int .i64 0] (by simp [Act.eval, Act.put]) rfl HCZ.out (fun x hx => by simp at hx; rcases hx with rfl | rfl | rfl | rfl <;> rfl) (by omega) (by unfold maxLen; omega) (by omega) (by omega) _ rfl ?_; intro g cap w6 hown' hgrow hat hlt; have hpx : some pa ≠ (Value.slice va m vc).ownBlock := (fun e => by have := HLT.out pa e.symm; dsimp only at this; omega); have hgp : g ≠ pa := (hat.elim (fun e => by have := HLT.out g e; dsimp only at this; omega) (fun e => by omega)); have hP6 := (hgrow.block pa (by omega) hpx).trans HPA5.out; have hfa := push_facts hP6 hown' hgp hxl; obtain ⟨⟨t0, t1, t2, t3, tf⟩, tb, ⟨d1, d2⟩, bb⟩ := hfa; have tb0 := fun v => (tb v).1; have tb1 := fun v => (tb v).2.1; have tb2 := fun v => (tb v).2.2.1; have tb3 := fun v => (tb v).2.2.2.1; have tbf := fun v => (tb v).2.2.2.2; have bb0 := fun a b c d => (bb a b c d).1; have bbf := fun a b c d => (bb a b c d).2; have HO := Lib.hid hown'; have HG := Lib.hid hgrow; have HAT := Lib.hid hat; clear hown' hgrow hat hP6 tb bb)
          | (refine step_append_lies _ rfl (.tmp 30) (.tmp 34) 22 rfl (pb + 1) 53 i0 (.agg #[.int .i64 0, .string ⟨#[]⟩, .slice none 0 0, .int .i64 0]) 4 56 Tryz.underlying22 hi0 hz0 hz1 hz2 rfl (by decide) (.slice va m vc) m xs (by simp [Act.eval, Act.put]) HOWN.out ⟨wr.heap.size, 0, none⟩ 1 1 [.int .i64 0, .string ⟨#[]⟩, .slice none 0 0, .int .i64 0] (by simp [Act.eval, Act.put]) rfl HCZ.out (fun x hx => by simp at hx; rcases hx with rfl | rfl | rfl | rfl <;> rfl) (by omega) (by unfold maxLen; omega) (by omega) (by omega) _ rfl ?_; intro g cap w6 hown' hgrow hat hlt; have hpx : some pa ≠ (Value.slice va m vc).ownBlock := (fun e => by have := HLT.out pa e.symm; dsimp only at this; omega); have hgp : g ≠ pa := (hat.elim (fun e => by have := HLT.out g e; dsimp only at this; omega) (fun e => by omega)); have hP6 := (hgrow.block pa (by omega) hpx).trans HPA5.out; have hfa := push_facts hP6 hown' hgp hxl; obtain ⟨⟨t0, t1, t2, t3, tf⟩, tb, ⟨d1, d2⟩, bb⟩ := hfa; have tb0 := fun v => (tb v).1; have tb1 := fun v => (tb v).2.1; have tb2 := fun v => (tb v).2.2.1; have tb3 := fun v => (tb v).2.2.2.1; have tbf := fun v => (tb v).2.2.2.2; have bb0 := fun a b c d => (bb a b c d).1; have bbf := fun a b c d => (bb a b c d).2; have HO := Lib.hid hown'; have HG := Lib.hid hgrow; have HAT := Lib.hid hat; clear hown' hgrow hat hP6 tb bb))
        all_goals (
          have hpush := HM5.out.push (k' := k') (n := n') (p := pk) (c := cc) hm0 HK.out HFL.out hxl HLT.out HW5.out HO.out HG.out HAT.out
          have HPU := Lib.hid hpush
          have hgq := Ne.symm hgp
          clear hpush t0 t1 t2 t3 tf tb0 tb1 tb2 tb3 tbf d1 d2 bb0 bbf b1 b2 b3 b4 b1o HO HG HAT HCZ HOWN HPA5 HLT HMA HCW a1 a2 e1 e2 p1 p2 a1o
          refine NoPanic.normal ?_
          go_wp2_with fail
          go_roundg g'
          case measure => omega
          case rel =>
            refine ⟨acc ++ [.mk k' n' kids pk], q', some ⟨g, 0, none⟩, m + 1, cap, ?_, HR, by simp; omega⟩
            first
              | with_reducible exact HPU.out
              | (rw [setCell_far4 _ _ _ _ _ _ _ _ _ hgq]; with_reducible exact HPU.out))
    · have hS2 := hS.out
      rw [stmtsP_end hq] at hS2
      have hq' : ¬ (q : Int) < (ts.length : Int) := by omega
      have HS2 := Lib.hid hS2
      have HM := Lib.hid hm
      clear hS hm hS2
      go_wp2_with fail
      go_quiet (fail)
      go_wp2_with fail
      have hsz : szL acc ≤ ts.length := by
        have h1 : S = .ok acc q := HS2.out.symm
        exact parse_sz (F := 8192) (f := 8192) (L := s.size) (r := q) (by have := HLEN.out; omega) (by have := HLEN.out; omega) (HSF.out.trans h1)
      have hR : parseT ts s.size = match deepL acc 1 with
          | some x => .error (3, x.pos, x.name)
          | none => .ok acc := by
        unfold parseT
        rw [HSF.out, ← HS2.out]
        rfl
      have HPR := Lib.hid hR
      obtain ⟨y0, c0, hv, hrow⟩ := HM.out.row
      cases hv
      have hl0 := HM.out.lt
      have hlen0 := HLEN.out
      have hll := len_szL acc
      have cd := deep_any (fun b => w.heap.size ≤ b) (szL acc + 1) acc (Nat.lt_succ_self _) (LenL.of_sz acc (by omega)) (by omega) 1 (by omega) va vc (wr.drewN nq) (NdRow.mono (w := wr) (w' := wr.drewN nq) (ok := fun b => pb + 1 ≤ b) (fun b hb _ => by dsimp only at hl0; omega) (fun _ _ _ => rfl) _ _ hrow)
      have HMD := Lib.hid (HM.out.drewN nq)
      clear hrow hl0 hR hsz hll hlen0
      rw [hm0] at cd
      refine cd.mono ?_
      clear cd
      rintro e w5 ⟨hb, ⟨hr, rfl⟩ | ⟨nd, b, o, hr, rfl, hat⟩⟩
      · have HPR2 : Hid (parseT ts s.size = .ok acc) := by
          have := HPR.out
          rw [hr] at this
          exact this
        have HM5 := Lib.hid (HMD.out.below hb)
        obtain ⟨⟨b1, b2, b3, b4⟩, _, _⟩ := HM5.out.facts
        clear hb hr a1 a2 e1 e2 p1 p2 HPR
        go_wp2_with fail
        obtain ⟨h1, h2, h3⟩ := ok_end HM5.out
        exact ret_end rfl rfl h1 h2 (by rw [HPR2.out]; exact h3)
      · obtain ⟨k, nm, kids, p⟩ := nd
        have HPR2 : Hid (parseT ts s.size = .error (3, p, nm)) := by
          have := HPR.out
          rw [hr] at this
          exact this
        obtain ⟨_, x0, x1, x3, _⟩ := hat
        have HM5 := Lib.hid (HMD.out.below hb)
        obtain ⟨⟨b1, b2, b3, b4⟩, _, _⟩ := HM5.out.facts
        obtain ⟨i1, i2, i3, hW⟩ := err_end HM5.out (3, p, nm)
        have HW := Lib.hid hW
        have i1a := fun o => (i1 o).1
        have i1b := fun o => (i1 o).2
        have i2a := fun o u => (i2 o u).1
        have i2b := fun o u => (i2 o u).2
        have i3a := fun o u => (i3 o u).1
        have i3b := fun o u => (i3 o u).2
        clear hb hr a1 a2 e1 e2 p1 p2 HPR i1 i2 i3 hW
        go_wp2_with fail
        refine wp_region_noPanic ?_
        go_region
        all_goals (
          refine NoPanic.normal ?_
          clear i1a i1b i2a i2b i3a i3b b1 b2 b3 b4 x0 x1 x3
          go_wp2_with fail
          first
            | (obtain ⟨h1, h2, h3⟩ := HW.out _ (.inl rfl)
               refine ret_end rfl rfl h1 h2 (by rw [HPR2.out]; exact h3))
            | (obtain ⟨h1, h2, h3⟩ := HW.out _ (.inr rfl)
               refine ret_end rfl rfl h1 h2 (by rw [HPR2.out]; exact h3)))
end Go.Proofs.YtpbkeamjdolpgaaGreatDoor
namespace Go.Proofs.YtpbkeamjdolpgaaGreatDoor
open Go.RowKit Go.Lib Go.Shelf Go.Sort

theorem kindsR_6 (l : List Nd) : kindsR true [-1, 0, 0] l = shR (if l.length = 2 then [-1, 0] else [-1, 0, 0]) l := by
  unfold kindsR
  by_cases h2 : l.length = 2
  · rw [if_pos h2, h2]; simp
  · rw [if_neg h2]
    by_cases h3 : l.length = 3
    · rw [h3]; simp
    · have : shR [-1, 0, 0] l = false := by
        cases hs : shR [-1, 0, 0] l
        · rfl
        · exact absurd (shR_len _ _ hs).symm h3
      rw [this]
      simp [h3]
      omega
theorem kindsR_7 (l : List Nd) : kindsR true [8, 0] l = shR (if l.length = 1 then [8] else [8, 0]) l := by
  unfold kindsR
  by_cases h2 : l.length = 1
  · rw [if_pos h2, h2]; simp
  · rw [if_neg h2]
    by_cases h3 : l.length = 2
    · rw [h3]; simp
    · have : shR [8, 0] l = false := by
        cases hs : shR [8, 0] l
        · rfl
        · exact absurd (shR_len _ _ hs).symm h3
      rw [this]
      simp [h3]
      omega
section
variable (ok : Nat → Prop) (w0 : World) (n : List UInt8) (kids : List Nd) (p : Int) (hw : wtL kids + n.length < 2 ^ 40) (hG : Gl w0) (h : KidsOk ok w0 kids)
set_option maxHeartbeats 4000000 in
set_option maxRecDepth 100000 in
include hw h in
theorem st6_any : OneQ 52 [] ok stR w0 (.mk 6 n kids p) := by
  intro v w1 hb hv
  obtain ⟨y, c, rfl, hrow⟩ := hv
  have hlen := len_wtL kids
  have hA : Below w1.heap.size w1 (w1.alloc (ndO 6 n y kids.length c p)) := (Below.refl _ _).alloc (Nat.le_refl _) _
  have hI : Below (w1.alloc (ndO 6 n y kids.length c p)).heap.size (w1.alloc (ndO 6 n y kids.length c p)) ((w1.alloc (ndO 6 n y kids.length c p)).alloc (.cells #[.int .i64 (-1), .int .i64 0, .int .i64 0] 3)) := (Below.refl _ _).alloc (Nat.le_refl _) _
  have c1 := kinds_all ok true [-1, 0, 0] 3 rfl (by omega) kids kids.length rfl (by omega) y c _ 3 _ ((hrow.below hA).below hI) (ints_three _ (-1) 0 0 3) (((h.below hb).below hA).below hI)
  rw [World.size_alloc] at c1
  have HA := Lib.hid (tr hA hI)
  have HA0 := Lib.hid hA
  have hE : stR (.mk 6 n kids p) = (n.isEmpty && kindsR true [-1, 0, 0] kids) := by
    rw [stR_eq, kindsR_6, if_pos rfl]
  rw [hE]
  show Calls _ _ _ _ (Yes _ w1)
  simp only [List.append_toArray, List.cons_append, List.nil_append]
  unfold ndO at c1
  obtain ⟨B1, hB1⟩ : ∃ B, kindsR true [-1, 0, 0] kids = B := ⟨_, rfl⟩
  rw [hB1] at c1 ⊢
  clear h hrow hB1 hb hA hI hlen hw hE
  by_cases hn : n = []
  · subst hn
    go_enter Tryz.func52, Tryz.ntmps52
    go_wp2_with fail
    refine c1.mono ?_
    clear c1
    rintro e w2 ⟨rfl, hb2⟩
    go_wp2_with fail
    go_ret
    exact ⟨by simp, tr HA.out hb2⟩
  · have e : n.isEmpty = false := by simpa using hn
    rw [e, Bool.false_and]
    have Q : (n == []) = false := beq_eq_false_iff_ne.2 hn
    clear c1
    go_enter Tryz.func52, Tryz.ntmps52
    go_wp2_with fail
    go_ret
    exact ⟨rfl, HA0.out⟩
set_option maxHeartbeats 4000000 in
set_option maxRecDepth 100000 in
include hw hG in
theorem stno_any (k : Int) (hk : k ≠ 6) (hP : plainR n = false) : OneQ 52 [] ok stR w0 (.mk k n kids p) := by
  intro v w1 hb hv
  obtain ⟨y, c, rfl, hrow⟩ := hv
  have hA : Below w1.heap.size w1 (w1.alloc (ndO k n y kids.length c p)) := (Below.refl _ _).alloc (Nat.le_refl _) _
  have c0 := plain_any n _ (by omega) ((hG.below hb).below hA)
  rw [hP] at c0
  have HA := Lib.hid hA
  have hE : stR (.mk k n kids p) = false := by
    rw [stR_eq, if_neg hk, hP, Bool.false_and]
  rw [hE]
  show Calls _ _ _ _ (Yes _ w1)
  simp only [List.append_toArray, List.cons_append, List.nil_append]
  unfold ndO at c0
  have Q : (k == 6) = false := beq_eq_false_iff_ne.2 hk
  clear hrow hb hA hw hE hG hP hk
  go_enter Tryz.func52, Tryz.ntmps52
  go_wp2_with fail
  refine c0.mono ?_
  clear c0
  rintro e w2 ⟨rfl, hb2⟩
  go_wp2_with fail
  go_ret
  exact ⟨rfl, tr HA.out hb2⟩
set_option maxHeartbeats 4000000 in
set_option maxRecDepth 100000 in
include hw hG in
theorem stk_any (k : Int) (hk6 : k ≠ 6) (hk : k < 1 ∨ 3 < k) (hk5 : k ≠ 5) (hk7 : k ≠ 7) (hP : plainR n = true) : OneQ 52 [] ok stR w0 (.mk k n kids p) := by
  intro v w1 hb hv
  obtain ⟨y, c, rfl, hrow⟩ := hv
  have hA : Below w1.heap.size w1 (w1.alloc (ndO k n y kids.length c p)) := (Below.refl _ _).alloc (Nat.le_refl _) _
  have c0 := plain_any n _ (by omega) ((hG.below hb).below hA)
  rw [hP] at c0
  have HA := Lib.hid hA
  have hE : stR (.mk k n kids p) = false := by
    rw [stR_eq, if_neg hk6, if_neg (by omega), if_neg (by omega), if_neg (by omega), if_neg hk5, if_neg hk7, Bool.and_false]
  rw [hE]
  show Calls _ _ _ _ (Yes _ w1)
  simp only [List.append_toArray, List.cons_append, List.nil_append]
  unfold ndO at c0
  have Q6 : (k == 6) = false := beq_eq_false_iff_ne.2 hk6
  have Q1 : (k == 1) = false := beq_eq_false_iff_ne.2 (by omega)
  have Q2 : (k == 2) = false := beq_eq_false_iff_ne.2 (by omega)
  have Q3 : (k == 3) = false := beq_eq_false_iff_ne.2 (by omega)
  have Q5 : (k == 5) = false := beq_eq_false_iff_ne.2 hk5
  have Q7 : (k == 7) = false := beq_eq_false_iff_ne.2 hk7
  have hz : ∀ o, w1.heap.size < (w1.alloc o).heap.size := fun o => by rw [World.size_alloc]; omega
  have hbx : (w1.alloc (.cells #[.int .i64 k, .string ⟨n.toArray⟩, .slice y kids.length c, .int .i64 p] 53)).cell? ⟨w1.heap.size, 0, none⟩ = some (.int .i64 k) := (Box4.new w1 _ _ _ _).facts.1
  have HBX := Lib.hid hbx
  clear hrow hb hA hw hE hG hP hk hk5 hk6 hk7 hbx
  go_enter Tryz.func52, Tryz.ntmps52
  go_wp2_with fail
  refine c0.mono ?_
  clear c0
  rintro e w2 ⟨rfl, hb2⟩
  have x0 := (hb2.cell (p := ⟨w1.heap.size, 0, none⟩) (hz _)).trans HBX.out
  go_wp2_with fail
  go_ret
  exact ⟨rfl, tr HA.out hb2⟩
set_option maxHeartbeats 4000000 in
set_option maxRecDepth 100000 in
include hw hG h in
theorem st1_any (hP : plainR n = true) : OneQ 52 [] ok stR w0 (.mk 1 n kids p) := by
  intro v w1 hb hv
  obtain ⟨y, c, rfl, hrow⟩ := hv
  have hlen := len_wtL kids
  have hA : Below w1.heap.size w1 (w1.alloc (ndO 1 n y kids.length c p)) := (Below.refl _ _).alloc (Nat.le_refl _) _
  have c0 := plain_any n _ (by omega) ((hG.below hb).below hA)
  rw [hP] at c0
  have C1 : Hid (∀ w2, Below (w1.alloc (ndO 1 n y kids.length c p)).heap.size (w1.alloc (ndO 1 n y kids.length c p)) w2 → Calls Tryz.prog 93 #[.slice y kids.length c, .bool false, .slice (some ⟨w2.heap.size, 0, none⟩) 1 1] (w2.alloc (.cells #[.int .i64 (-1)] 3)) (Yes (kindsR false [-1] kids) (w2.alloc (.cells #[.int .i64 (-1)] 3)))) := fun w2 hb2 =>
    kinds_all ok false [-1] 1 rfl (by omega) kids kids.length rfl (by omega) y c _ 1 _ (((hrow.below hA).below hb2).below ((Below.refl _ _).alloc (Nat.le_refl _) _)) (ints_one _ (-1) 3) ((((h.below hb).below hA).below hb2).below ((Below.refl _ _).alloc (Nat.le_refl _) _))
  have HA := Lib.hid hA
  have hE : stR (.mk 1 n kids p) = kindsR false [-1] kids := by
    rw [stR_eq, kindsR_false, hP]
    simp
  rw [hE]
  show Calls _ _ _ _ (Yes _ w1)
  simp only [List.append_toArray, List.cons_append, List.nil_append]
  unfold ndO at c0
  have hz : ∀ o, w1.heap.size < (w1.alloc o).heap.size := fun o => by rw [World.size_alloc]; omega
  have hf := (Box4.new w1 (.int .i64 1) (.string ⟨n.toArray⟩) (.slice y kids.length c) (.int .i64 p)).facts
  have HBX := Lib.hid hf
  obtain ⟨B1, hB1⟩ : ∃ B, kindsR false [-1] kids = B := ⟨_, rfl⟩
  rw [hB1] at C1 ⊢
  clear h hrow hb hA hw hE hG hP hlen hf hB1
  go_enter Tryz.func52, Tryz.ntmps52
  go_wp2_with fail
  refine c0.mono ?_
  clear c0
  rintro e w2 ⟨rfl, hb2⟩
  have x0 := (hb2.cell (p := ⟨w1.heap.size, 0, none⟩) (hz _)).trans HBX.out.1
  have x2 := (hb2.cell (p := ⟨w1.heap.size, 2, none⟩) (hz _)).trans HBX.out.2.2.1
  go_wp2_with fail
  refine (C1.out w2 hb2).mono ?_
  rintro e w3 ⟨rfl, hb3⟩
  go_wp2_with fail
  go_ret
  exact ⟨rfl, tr (tr HA.out hb2) (tr ((Below.refl _ _).alloc (Nat.le_refl _) _) hb3)⟩
set_option maxHeartbeats 4000000 in
set_option maxRecDepth 100000 in
include hw hG h in
theorem st2_any (hP : plainR n = true) : OneQ 52 [] ok stR w0 (.mk 2 n kids p) := by
  intro v w1 hb hv
  obtain ⟨y, c, rfl, hrow⟩ := hv
  have hlen := len_wtL kids
  have hA : Below w1.heap.size w1 (w1.alloc (ndO 2 n y kids.length c p)) := (Below.refl _ _).alloc (Nat.le_refl _) _
  have c0 := plain_any n _ (by omega) ((hG.below hb).below hA)
  rw [hP] at c0
  have C1 : Hid (∀ w2, Below (w1.alloc (ndO 2 n y kids.length c p)).heap.size (w1.alloc (ndO 2 n y kids.length c p)) w2 → Calls Tryz.prog 93 #[.slice y kids.length c, .bool false, .slice (some ⟨w2.heap.size, 0, none⟩) 2 2] (w2.alloc (.cells #[.int .i64 4, .int .i64 0] 3)) (Yes (kindsR false [4, 0] kids) (w2.alloc (.cells #[.int .i64 4, .int .i64 0] 3)))) := fun w2 hb2 =>
    kinds_all ok false [4, 0] 2 rfl (by omega) kids kids.length rfl (by omega) y c _ 2 _ (((hrow.below hA).below hb2).below ((Below.refl _ _).alloc (Nat.le_refl _) _)) (ints_two _ 4 0 3) ((((h.below hb).below hA).below hb2).below ((Below.refl _ _).alloc (Nat.le_refl _) _))
  have HA := Lib.hid hA
  have hE : stR (.mk 2 n kids p) = kindsR false [4, 0] kids := by
    rw [stR_eq, kindsR_false, hP]
    simp
  rw [hE]
  show Calls _ _ _ _ (Yes _ w1)
  simp only [List.append_toArray, List.cons_append, List.nil_append]
  unfold ndO at c0
  have hz : ∀ o, w1.heap.size < (w1.alloc o).heap.size := fun o => by rw [World.size_alloc]; omega
  have hf := (Box4.new w1 (.int .i64 2) (.string ⟨n.toArray⟩) (.slice y kids.length c) (.int .i64 p)).facts
  have HBX := Lib.hid hf
  obtain ⟨B1, hB1⟩ : ∃ B, kindsR false [4, 0] kids = B := ⟨_, rfl⟩
  rw [hB1] at C1 ⊢
  clear h hrow hb hA hw hE hG hP hlen hf hB1
  go_enter Tryz.func52, Tryz.ntmps52
  go_wp2_with fail
  refine c0.mono ?_
  clear c0
  rintro e w2 ⟨rfl, hb2⟩
  have x0 := (hb2.cell (p := ⟨w1.heap.size, 0, none⟩) (hz _)).trans HBX.out.1
  have x2 := (hb2.cell (p := ⟨w1.heap.size, 2, none⟩) (hz _)).trans HBX.out.2.2.1
  go_wp2_with fail
  refine (C1.out w2 hb2).mono ?_
  rintro e w3 ⟨rfl, hb3⟩
  go_wp2_with fail
  go_ret
  exact ⟨rfl, tr (tr HA.out hb2) (tr ((Below.refl _ _).alloc (Nat.le_refl _) _) hb3)⟩
set_option maxHeartbeats 4000000 in
set_option maxRecDepth 100000 in
include hw hG h in
theorem st3_any (hP : plainR n = true) : OneQ 52 [] ok stR w0 (.mk 3 n kids p) := by
  intro v w1 hb hv
  obtain ⟨y, c, rfl, hrow⟩ := hv
  have hlen := len_wtL kids
  have hA : Below w1.heap.size w1 (w1.alloc (ndO 3 n y kids.length c p)) := (Below.refl _ _).alloc (Nat.le_refl _) _
  have c0 := plain_any n _ (by omega) ((hG.below hb).below hA)
  rw [hP] at c0
  have C1 : Hid (∀ w2, Below (w1.alloc (ndO 3 n y kids.length c p)).heap.size (w1.alloc (ndO 3 n y kids.length c p)) w2 → Calls Tryz.prog 93 #[.slice y kids.length c, .bool false, .slice (some ⟨w2.heap.size, 0, none⟩) 2 2] (w2.alloc (.cells #[.int .i64 4, .int .i64 (-1)] 3)) (Yes (kindsR false [4, -1] kids) (w2.alloc (.cells #[.int .i64 4, .int .i64 (-1)] 3)))) := fun w2 hb2 =>
    kinds_all ok false [4, -1] 2 rfl (by omega) kids kids.length rfl (by omega) y c _ 2 _ (((hrow.below hA).below hb2).below ((Below.refl _ _).alloc (Nat.le_refl _) _)) (ints_two _ 4 (-1) 3) ((((h.below hb).below hA).below hb2).below ((Below.refl _ _).alloc (Nat.le_refl _) _))
  have HA := Lib.hid hA
  have hE : stR (.mk 3 n kids p) = kindsR false [4, -1] kids := by
    rw [stR_eq, kindsR_false, hP]
    simp
  rw [hE]
  show Calls _ _ _ _ (Yes _ w1)
  simp only [List.append_toArray, List.cons_append, List.nil_append]
  unfold ndO at c0
  have hz : ∀ o, w1.heap.size < (w1.alloc o).heap.size := fun o => by rw [World.size_alloc]; omega
  have hf := (Box4.new w1 (.int .i64 3) (.string ⟨n.toArray⟩) (.slice y kids.length c) (.int .i64 p)).facts
  have HBX := Lib.hid hf
  obtain ⟨B1, hB1⟩ : ∃ B, kindsR false [4, -1] kids = B := ⟨_, rfl⟩
  rw [hB1] at C1 ⊢
  clear h hrow hb hA hw hE hG hP hlen hf hB1
  go_enter Tryz.func52, Tryz.ntmps52
  go_wp2_with fail
  refine c0.mono ?_
  clear c0
  rintro e w2 ⟨rfl, hb2⟩
  have x0 := (hb2.cell (p := ⟨w1.heap.size, 0, none⟩) (hz _)).trans HBX.out.1
  have x2 := (hb2.cell (p := ⟨w1.heap.size, 2, none⟩) (hz _)).trans HBX.out.2.2.1
  go_wp2_with fail
  refine (C1.out w2 hb2).mono ?_
  rintro e w3 ⟨rfl, hb3⟩
  go_wp2_with fail
  go_ret
  exact ⟨rfl, tr (tr HA.out hb2) (tr ((Below.refl _ _).alloc (Nat.le_refl _) _) hb3)⟩
set_option maxHeartbeats 4000000 in
set_option maxRecDepth 100000 in
include hw hG h in
theorem st5_any (hP : plainR n = true) : OneQ 52 [] ok stR w0 (.mk 5 n kids p) := by
  intro v w1 hb hv
  obtain ⟨y, c, rfl, hrow⟩ := hv
  have hlen := len_wtL kids
  have hA : Below w1.heap.size w1 (w1.alloc (ndO 5 n y kids.length c p)) := (Below.refl _ _).alloc (Nat.le_refl _) _
  have c0 := plain_any n _ (by omega) ((hG.below hb).below hA)
  rw [hP] at c0
  have C1 : Hid (∀ w2, Below (w1.alloc (ndO 5 n y kids.length c p)).heap.size (w1.alloc (ndO 5 n y kids.length c p)) w2 → Calls Tryz.prog 93 #[.slice y kids.length c, .bool false, .slice (some ⟨w2.heap.size, 0, none⟩) 2 2] (w2.alloc (.cells #[.int .i64 (-1), .int .i64 0] 3)) (Yes (kindsR false [-1, 0] kids) (w2.alloc (.cells #[.int .i64 (-1), .int .i64 0] 3)))) := fun w2 hb2 =>
    kinds_all ok false [-1, 0] 2 rfl (by omega) kids kids.length rfl (by omega) y c _ 2 _ (((hrow.below hA).below hb2).below ((Below.refl _ _).alloc (Nat.le_refl _) _)) (ints_two _ (-1) 0 3) ((((h.below hb).below hA).below hb2).below ((Below.refl _ _).alloc (Nat.le_refl _) _))
  have HA := Lib.hid hA
  have hE : stR (.mk 5 n kids p) = kindsR false [-1, 0] kids := by
    rw [stR_eq, kindsR_false, hP]
    simp
  rw [hE]
  show Calls _ _ _ _ (Yes _ w1)
  simp only [List.append_toArray, List.cons_append, List.nil_append]
  unfold ndO at c0
  have hz : ∀ o, w1.heap.size < (w1.alloc o).heap.size := fun o => by rw [World.size_alloc]; omega
  have hf := (Box4.new w1 (.int .i64 5) (.string ⟨n.toArray⟩) (.slice y kids.length c) (.int .i64 p)).facts
  have HBX := Lib.hid hf
  obtain ⟨B1, hB1⟩ : ∃ B, kindsR false [-1, 0] kids = B := ⟨_, rfl⟩
  rw [hB1] at C1 ⊢
  clear h hrow hb hA hw hE hG hP hlen hf hB1
  go_enter Tryz.func52, Tryz.ntmps52
  go_wp2_with fail
  refine c0.mono ?_
  clear c0
  rintro e w2 ⟨rfl, hb2⟩
  have x0 := (hb2.cell (p := ⟨w1.heap.size, 0, none⟩) (hz _)).trans HBX.out.1
  have x2 := (hb2.cell (p := ⟨w1.heap.size, 2, none⟩) (hz _)).trans HBX.out.2.2.1
  go_wp2_with fail
  refine (C1.out w2 hb2).mono ?_
  rintro e w3 ⟨rfl, hb3⟩
  go_wp2_with fail
  go_ret
  exact ⟨rfl, tr (tr HA.out hb2) (tr ((Below.refl _ _).alloc (Nat.le_refl _) _) hb3)⟩
set_option maxHeartbeats 4000000 in
set_option maxRecDepth 100000 in
include hw hG h in
theorem st7_any (hP : plainR n = true) : OneQ 52 [] ok stR w0 (.mk 7 n kids p) := by
  intro v w1 hb hv
  obtain ⟨y, c, rfl, hrow⟩ := hv
  have hlen := len_wtL kids
  have hA : Below w1.heap.size w1 (w1.alloc (ndO 7 n y kids.length c p)) := (Below.refl _ _).alloc (Nat.le_refl _) _
  have c0 := plain_any n _ (by omega) ((hG.below hb).below hA)
  rw [hP] at c0
  have C1 : Hid (∀ w2, Below (w1.alloc (ndO 7 n y kids.length c p)).heap.size (w1.alloc (ndO 7 n y kids.length c p)) w2 → Calls Tryz.prog 93 #[.slice y kids.length c, .bool true, .slice (some ⟨w2.heap.size, 0, none⟩) 2 2] (w2.alloc (.cells #[.int .i64 8, .int .i64 0] 3)) (Yes (kindsR true [8, 0] kids) (w2.alloc (.cells #[.int .i64 8, .int .i64 0] 3)))) := fun w2 hb2 =>
    kinds_all ok true [8, 0] 2 rfl (by omega) kids kids.length rfl (by omega) y c _ 2 _ (((hrow.below hA).below hb2).below ((Below.refl _ _).alloc (Nat.le_refl _) _)) (ints_two _ 8 0 3) ((((h.below hb).below hA).below hb2).below ((Below.refl _ _).alloc (Nat.le_refl _) _))
  have HA := Lib.hid hA
  have hE : stR (.mk 7 n kids p) = kindsR true [8, 0] kids := by
    rw [stR_eq, kindsR_7, hP]
    simp
  rw [hE]
  show Calls _ _ _ _ (Yes _ w1)
  simp only [List.append_toArray, List.cons_append, List.nil_append]
  unfold ndO at c0
  have hz : ∀ o, w1.heap.size < (w1.alloc o).heap.size := fun o => by rw [World.size_alloc]; omega
  have hf := (Box4.new w1 (.int .i64 7) (.string ⟨n.toArray⟩) (.slice y kids.length c) (.int .i64 p)).facts
  have HBX := Lib.hid hf
  obtain ⟨B1, hB1⟩ : ∃ B, kindsR true [8, 0] kids = B := ⟨_, rfl⟩
  rw [hB1] at C1 ⊢
  clear h hrow hb hA hw hE hG hP hlen hf hB1
  go_enter Tryz.func52, Tryz.ntmps52
  go_wp2_with fail
  refine c0.mono ?_
  clear c0
  rintro e w2 ⟨rfl, hb2⟩
  have x0 := (hb2.cell (p := ⟨w1.heap.size, 0, none⟩) (hz _)).trans HBX.out.1
  have x2 := (hb2.cell (p := ⟨w1.heap.size, 2, none⟩) (hz _)).trans HBX.out.2.2.1
  go_wp2_with fail
  refine (C1.out w2 hb2).mono ?_
  rintro e w3 ⟨rfl, hb3⟩
  go_wp2_with fail
  go_ret
  exact ⟨rfl, tr (tr HA.out hb2) (tr ((Below.refl _ _).alloc (Nat.le_refl _) _) hb3)⟩
end
theorem node_ck (ok : Nat → Prop) (w0 : World) (hG : Gl w0) : ∀ (N : Nat) (x : Nd), wtN x < N → wtN x < 2 ^ 40 → OneQ 147 [] ok exR w0 x ∧ OneQ 52 [] ok stR w0 x ∧ OneQ 148 [] ok partR w0 x
  | 0, _, h, _ => by omega
  | N + 1, .mk k n kids p, hN, hw => by
    have hK : KidsOk ok w0 kids := fun x hx => node_ck ok w0 hG N x (by have := kid_wt (k := k) (n := n) (p := p) hx; omega) (by have := kid_wt (k := k) (n := n) (p := p) hx; omega)
    rw [wtN_mk] at hw
    have hlen := len_wtL kids
    have hw' : wtL kids + n.length < 2 ^ 40 := by omega
    refine ⟨?_, ?_, part_any ok w0 k n kids p (by omega) hK⟩
    · by_cases h9 : k = 9
      · subst h9; exact ex9_any ok w0 n kids p hw' hG
      by_cases h10 : k = 10
      · subst h10; exact ex10_any ok w0 n kids p hw' hG
      by_cases h11 : k = 11
      · subst h11; exact ex11_any ok w0 n kids p hw' hK
      by_cases h12 : k = 12
      · subst h12
        by_cases hl : kids.length = 1
        · obtain ⟨x, hx⟩ := List.length_eq_one_iff.1 hl
          exact ex12a_any ok w0 n kids p hK x hx
        · exact ex12b_any ok w0 n kids p hw' hK hl
      by_cases h13 : k = 13
      · subst h13; exact ex13_any ok w0 n kids p hw' hG hK
      by_cases h14 : k = 14
      · subst h14; exact ex14_any ok w0 n kids p hw' hK
      by_cases h15 : k = 15
      · subst h15; exact ex15_any ok w0 n kids p hw' hK
      exact exno_any ok w0 n kids p k (by omega)
    · by_cases h6 : k = 6
      · subst h6; exact st6_any ok w0 n kids p hw' hK
      cases hP : plainR n
      · exact stno_any ok w0 n kids p hw' hG k h6 hP
      by_cases h1 : k = 1
      · subst h1; exact st1_any ok w0 n kids p hw' hG hK hP
      by_cases h2 : k = 2
      · subst h2; exact st2_any ok w0 n kids p hw' hG hK hP
      by_cases h3 : k = 3
      · subst h3; exact st3_any ok w0 n kids p hw' hG hK hP
      by_cases h5 : k = 5
      · subst h5; exact st5_any ok w0 n kids p hw' hG hK hP
      by_cases h7 : k = 7
      · subst h7; exact st7_any ok w0 n kids p hw' hG hK hP
      exact stk_any ok w0 n kids p hw' hG k h6 (by omega) h5 h7 hP
set_option maxHeartbeats 4000000 in
set_option maxRecDepth 100000 in
theorem check_any (ok : Nat → Prop) (l : List Nd) (hw : wtL l < 2 ^ 40) (y : Option Addr) (c : Nat) (w : World) (hG : Gl w) (hrow : NdRow w ok l y) :
    Calls Tryz.prog 20 #[.slice y l.length c] w fun e w' => e = .returned (.int .i64 (checkR l)) ∧ Below w.heap.size w w' := by
  have hlen := len_wtL l
  have hsz := sz_wtL l
  have c0 := deep_any ok (szL l + 1) l (Nat.lt_succ_self _) (LenL.of_sz l (by omega)) (by omega) 1 (by omega) y c w hrow
  have e2 := enters_of Tryz.func52 (by kernel_rfl) rfl
  have C1 : Hid (∀ w1, Below w.heap.size w w1 → Calls Tryz.prog 51 #[.slice y l.length c, .func (.func 52) #[] #[]] w1 (Yes (stsR l) w1)) := fun w1 hb => by
    rw [stsR_all]
    exact all_any 52 e2 ok stR l l.length rfl (by omega) y c w1 (hrow.below hb) fun x hx => ((node_ck ok w hG (wtN x + 1) x (Nat.lt_succ_self _) (by have := wtL_mem hx; omega)).2.1).below hb
  have hR : checkR l = match deepL l 1 with | some _ => 3 | none => if stsR l then 0 else 290 := rfl
  obtain ⟨R, hR2⟩ : ∃ R, checkR l = R := ⟨_, rfl⟩
  rw [hR2] at hR ⊢
  have HR := Lib.hid hR
  obtain ⟨n, hn⟩ : ∃ n, l.length = n := ⟨_, rfl⟩
  rw [hn] at c0 C1 ⊢
  clear hG hrow hw hR hR2 hn hlen hsz
  go_enter Tryz.func20, Tryz.ntmps20
  go_wp2_with fail
  refine c0.mono ?_
  clear c0
  rintro e w1 ⟨hb, ⟨hr, rfl⟩ | ⟨nd, b, o, hr, rfl, hat⟩⟩
  · have hR := HR.out
    rw [hr] at hR
    clear hr
    cases hS : stsR l
    · have C2 := C1.out w1 hb
      rw [hS] at C2
      have HR2 : Hid (R = 290) := by
        rw [hS] at hR
        exact hR
      clear hS hR C1
      go_wp2_with fail
      refine C2.mono ?_
      clear C2
      rintro e w2 ⟨rfl, hb2⟩
      go_wp2_with fail
      go_ret
      exact ⟨by rw [HR2.out]; rfl, tr hb hb2⟩
    · have C2 := C1.out w1 hb
      rw [hS] at C2
      have HR2 : Hid (R = 0) := by
        rw [hS] at hR
        exact hR
      clear hS hR C1
      go_wp2_with fail
      refine C2.mono ?_
      clear C2
      rintro e w2 ⟨rfl, hb2⟩
      go_wp2_with fail
      go_ret
      exact ⟨by rw [HR2.out]; rfl, tr hb hb2⟩
  · have HR2 : Hid (R = 3) := by
      have hR := HR.out
      rw [hr] at hR
      exact hR
    clear hr hat C1
    go_wp2_with fail
    go_ret
    exact ⟨by rw [HR2.out]; rfl, hb⟩
theorem parse_any (s : ByteArray) (w : World) (hG : Gl w) : Calls Tryz.prog 27 #[.string s] w (ParseEnd (parseR s.data.toList) w) := by
  unfold parseR
  cases hT : tokensL s.data.toList with
  | error f =>
    refine (parse_err s w hG f hT).mono ?_
    rintro e w' ⟨h1, b, h2, h3, h4⟩
    exact ⟨h1, b, h2, h3, h4⟩
  | ok ts =>
    have := parse_ok s w hG ts hT
    rw [Lib.size_eq] at this
    exact this
end Go.Proofs.YtpbkeamjdolpgaaGreatDoor
namespace Go.Proofs.YtpbkeamjdolpgaaGreatDoor
open Go.RowKit Go.Lib Go.Shelf Go.Sort

theorem cat_run (a b c : List UInt8) (hc : c = a ++ b) (h : a.length + b.length ≤ 2 ^ 62) (W : World) : (Op.stringOp .add ⟨a.toArray⟩ ⟨b.toArray⟩).run Tryz.prog W = .ok (.string ⟨c.toArray⟩) W := by
  subst hc
  have e1 : (⟨a.toArray⟩ : ByteArray).size = a.length := by show a.toArray.size = _; simp
  have e2 : (⟨b.toArray⟩ : ByteArray).size = b.length := by show b.toArray.size = _; simp
  rw [run_string_add_sum W _ _ (by rw [e1, e2]; omega)]
  have e : (⟨a.toArray⟩ ++ ⟨b.toArray⟩ : ByteArray) = ⟨(a ++ b).toArray⟩ := by
    apply ByteArray.ext
    rw [ByteArray.data_append]
    simp
  rw [e]
end Go.Proofs.YtpbkeamjdolpgaaGreatDoor
namespace Go.Proofs.YtpbkeamjdolpgaaGreatDoor
open Go.RowKit Go.Extern.Stop Go.Stop Go.Extern

theorem as_nil (t : Value) (w : World) :
    Calls Tryz.prog 61 #[.nilIface, t] w fun e w' => e = .returned (.bool false) ∧ w' = w := by
  go_enter Tryz.func61, Tryz.ntmps61
  go_wp2
  go_ret
  exact ⟨rfl, rfl⟩

/-! ### CLOSED FACTS ON THE MODEL's ENTRIES FOR internal/reflectlite, at this program's types: 25: *p.E · 27: **p.E · 23: error · 45: reflectlite's rtype · 1: how many package-level variables the dump has -/
theorem Tryz.valueOf27 (t : Addr) (w : World) : (ReflectliteValue.unpack (.iface 98 (.pointer (some t)))).run Tryz.prog w
    = .ok (.agg #[.pointer (some ⟨10, 98, none⟩), .pointer (some ⟨w.heap.size, 0, none⟩), .int .u64 150]) (w.alloc (.cells #[.pointer (some t)] 98)) := by kernel_rfl
theorem Tryz.type27 (a : Addr) (w : World) : (ReflectliteValue.methodAny (ReflectliteValue.valueError "reflectlite.Value.Type" 0) (fun t _ _ _ => ReflectliteType.toType t) #[.agg #[.pointer (some ⟨10, 98, none⟩), .pointer (some a), .int .u64 150]]).run Tryz.prog w
    = .ok (.iface 187 (.agg #[.pointer (some ⟨10, 98, none⟩)])) w := by kernel_rfl
theorem Tryz.methodKind (h : Value) (w : World) : (Go.method 403 187 (.agg #[h]) "Kind").run Tryz.prog w = .ok (267, h) w := by kernel_rfl
theorem Tryz.kind27 (w : World) : ((ReflectliteType.abiMethod fun t => (fun a : Nat => Value.int IntKind.u8 (a : Int)) <$> Rtype.kind t) #[.pointer (some ⟨10, 98, none⟩)]).run Tryz.prog w = .ok (.int .u8 22) w := by kernel_rfl
theorem Tryz.kind25 (w : World) : ((ReflectliteType.abiMethod fun t => (fun a : Nat => Value.int IntKind.u8 (a : Int)) <$> Rtype.kind t) #[.pointer (some ⟨10, 23, none⟩)]).run Tryz.prog w = .ok (.int .u8 22) w := by kernel_rfl

/-! ### THE ENTRIES THAT READ OR WRITE MEMORY: laws with a premise on the cell (after Derived/Lib/ReflectliteSlice.lean's manner: each unfolding a lemma of its own, by rfl) -/
theorem rlm (z : Sem Value) (f : TypeId → Addr → Nat → Nat → Sem Value) (v : Value) :
    ReflectliteValue.method z f #[v] = (do match ← ReflectliteValue.parts v with | none => z | some (t, a, fl) => f t a fl (fl % 32)) := rfl
theorem Tryz.parts27 (a : Addr) (w : World) : (ReflectliteValue.parts (.agg #[.pointer (some ⟨10, 98, none⟩), .pointer (some a), .int .u64 150])).run Tryz.prog w = .ok (some (98, a, 150)) w := by kernel_rfl
theorem Tryz.isNil27 (a p : Addr) (W : World) (ha : W.cell? a = some (.pointer (some p))) :
    (ReflectliteValue.method (ReflectliteValue.valueError "reflectlite.Value.IsNil" 0) ReflectliteValue.isNil #[.agg #[.pointer (some ⟨10, 98, none⟩), .pointer (some a), .int .u64 150]]).run Tryz.prog W = .ok (.bool false) W := by
  rw [rlm]
  simp only [Sem.run_bind, Tryz.parts27, Result.andThen]
  simp [ReflectliteValue.isNil, loadVar, isAgg, underlying, Tryz.underlying98, ha, Result.andThen]

theorem Tryz.methodElem (h : Value) (w : World) : (Go.method 403 187 (.agg #[h]) "Elem").run Tryz.prog w = .ok (278, .agg #[h]) w := by kernel_rfl
theorem Tryz.methodImplements (h : Value) (w : World) : (Go.method 403 187 (.agg #[h]) "Implements").run Tryz.prog w = .ok (279, .agg #[h]) w := by kernel_rfl
theorem Tryz.methodAssignableTo (h : Value) (w : World) : (Go.method 403 187 (.agg #[h]) "AssignableTo").run Tryz.prog w = .ok (276, .agg #[h]) w := by kernel_rfl
theorem Tryz.elem27 (w : World) : (ReflectliteType.method ReflectliteType.elem #[.agg #[.pointer (some ⟨10, 98, none⟩)]]).run Tryz.prog w = .ok (.iface 187 (.agg #[.pointer (some ⟨10, 23, none⟩)])) w := by kernel_rfl
theorem Tryz.implements25 (w : World) : (ReflectliteType.relation "Implements" ReflectliteType.implements_ #[.agg #[.pointer (some ⟨10, 23, none⟩)], .iface 187 (.agg #[.pointer (some ⟨10, 36, none⟩)])]).run Tryz.prog w = .ok (.bool true) w := by kernel_rfl
theorem Tryz.typeOf25 (v : Value) (w : World) : (ReflectliteType.typeOf #[.iface 23 v]).run Tryz.prog w = .ok (.iface 187 (.agg #[.pointer (some ⟨10, 23, none⟩)])) w := by kernel_rfl
theorem Tryz.assignable25 (w : World) : (ReflectliteType.relation "AssignableTo" ReflectliteType.assignableTo #[.agg #[.pointer (some ⟨10, 23, none⟩)], .iface 187 (.agg #[.pointer (some ⟨10, 23, none⟩)])]).run Tryz.prog w = .ok (.bool true) w := by kernel_rfl
theorem Tryz.valueOf25 (e : Addr) (w : World) : (ReflectliteValue.unpack (.iface 23 (.pointer (some e)))).run Tryz.prog w
    = .ok (.agg #[.pointer (some ⟨10, 23, none⟩), .pointer (some ⟨w.heap.size, 0, none⟩), .int .u64 150]) (w.alloc (.cells #[.pointer (some e)] 23)) := by kernel_rfl

theorem Tryz.elemOf27 (w : World) : (Rtype.elem? 98).run Tryz.prog w = .ok (some 23) w := by kernel_rfl
theorem Tryz.mk25 (p : Addr) (w : World) : (ReflectliteValue.mk 23 p ReflectliteValue.flagAddr).run Tryz.prog w = .ok (.agg #[.pointer (some ⟨10, 23, none⟩), .pointer (some p), .int .u64 406]) w := by kernel_rfl
theorem Tryz.elemV27 (a p : Addr) (W : World) (ha : W.cell? a = some (.pointer (some p))) :
    (ReflectliteValue.method (ReflectliteValue.valueError "reflectlite.Value.Elem" 0) ReflectliteValue.elem #[.agg #[.pointer (some ⟨10, 98, none⟩), .pointer (some a), .int .u64 150]]).run Tryz.prog W
      = .ok (.agg #[.pointer (some ⟨10, 23, none⟩), .pointer (some p), .int .u64 406]) W := by
  rw [rlm]
  simp only [Sem.run_bind, Tryz.parts27, Result.andThen]
  simp [ReflectliteValue.elem, loadVar, isAgg, underlying, Tryz.underlying98, ha, Result.andThen, Tryz.elemOf27, Tryz.mk25]
theorem rls (v x : Value) : ReflectliteValue.set #[v, x] = (do
    let (some (dst, a, fl), some (src, b, _)) := (← ReflectliteValue.parts v, ← ReflectliteValue.parts x)
      | unsupported (.noEntry "extern/(internal/reflectlite.Value).Set.zeroValue")
    if fl / ReflectliteValue.flagAddr % 2 == 0 then unsupported (.noEntry "extern/(internal/reflectlite.Value).Set.unaddressable")
    let val ← loadVar src b
    if ← Rtype.directlyAssignable dst src then storeVar dst a val
    else if ← Rtype.implements dst src then
      if (← Rtype.kind src) == 20 then
        match val with
        | .nilIface => unsupported (.noEntry "extern/reflectlite: a nil value of one interface type handed on as a value of another")
        | _ => storeVar dst a val
      else storeVar dst a (.iface src val)
    else panicString ("reflectlite.Set: value of type " ++ (← Rtype.spelt src) ++ " is not assignable to type " ++ (← Rtype.spelt dst))
    pure (.tuple #[])) := rfl
theorem Tryz.parts25a (a : Addr) (w : World) : (ReflectliteValue.parts (.agg #[.pointer (some ⟨10, 23, none⟩), .pointer (some a), .int .u64 406])).run Tryz.prog w = .ok (some (23, a, 406)) w := by kernel_rfl
theorem Tryz.parts25 (a : Addr) (w : World) : (ReflectliteValue.parts (.agg #[.pointer (some ⟨10, 23, none⟩), .pointer (some a), .int .u64 150])).run Tryz.prog w = .ok (some (23, a, 150)) w := by kernel_rfl
theorem Tryz.direct25 (w : World) : (Rtype.directlyAssignable 23 23).run Tryz.prog w = .ok true w := by kernel_rfl
theorem Tryz.set25 (ta b e : Addr) (old : Value) (W : World) (hb : W.cell? b = some (.pointer (some e))) (ht : W.cell? ta = some old) (hf : W.frozen? ta = false) :
    (ReflectliteValue.set #[.agg #[.pointer (some ⟨10, 23, none⟩), .pointer (some ta), .int .u64 406], .agg #[.pointer (some ⟨10, 23, none⟩), .pointer (some b), .int .u64 150]]).run Tryz.prog W
      = .ok (.tuple #[]) (W.setCell ta (.pointer (some e))) := by
  rw [rls]
  simp only [Sem.run_bind, Tryz.parts25a, Tryz.parts25, Result.andThen]
  simp [ReflectliteValue.flagAddr, loadVar, isAgg, underlying, Tryz.underlying23, hb, Result.andThen, Tryz.direct25, storeVar, Value.cells, storeCells, Addr.add]
  rw [run_store Tryz.prog W ta _ _ (by rfl)]
  simp [ht, hf]

set_option maxHeartbeats 4000000 in
theorem as_hit (e t : Addr) (old : Value) (w : World) (hg : w.cell? ⟨0, 0, none⟩ = some (.iface 187 (.agg #[.pointer (some ⟨10, 36, none⟩)]))) (ht0 : w.cell? t = some old) (hf0 : w.frozen? t = false) :
    Calls Tryz.prog 61 #[.iface 23 (.pointer (some e)), .iface 98 (.pointer (some t))] w fun ev w' => ev = .returned (.bool true) ∧ w' = ((((w.alloc (.cells #[.pointer (some t)] 98)).alloc (.cells #[.pointer (some ⟨10, 98, none⟩), .pointer (some ⟨w.heap.size, 0, none⟩), .int .u64 150] 144)).alloc (.cells #[.pointer (some ⟨10, 98, none⟩), .pointer (some ⟨w.heap.size, 0, none⟩), .int .u64 150] 144)).alloc (.cells #[.pointer (some e)] 23)).setCell t (.pointer (some e)) := by
  have h6 := @run_callFunc_extern Tryz.prog 112 _ (fun args => ReflectliteValue.unpack (args.getD 0 (.tuple #[]))) Tryz.func112 (by kernel_rfl) (by kernel_rfl) (by kernel_rfl) (by kernel_rfl)
  have h7 := @run_callFunc_extern Tryz.prog 113 _ (ReflectliteValue.methodAny (ReflectliteValue.valueError "reflectlite.Value.Type" 0) (fun t _ _ _ => ReflectliteType.toType t)) Tryz.func113 (by kernel_rfl) (by kernel_rfl) (by kernel_rfl) (by kernel_rfl)
  have h8 := @run_callFunc_extern Tryz.prog 114 _ (ReflectliteValue.method (ReflectliteValue.valueError "reflectlite.Value.IsNil" 0) ReflectliteValue.isNil) Tryz.func114 (by kernel_rfl) (by kernel_rfl) (by kernel_rfl) (by kernel_rfl)
  have h27 := @run_callFunc_extern Tryz.prog 267 _ (ReflectliteType.abiMethod fun t => do pure (.int .u8 (← Rtype.kind t))) Tryz.func267 (by kernel_rfl) (by kernel_rfl) (by kernel_rfl) (by kernel_rfl)
  have h37 := @run_callFunc_extern Tryz.prog 278 _ (ReflectliteType.method ReflectliteType.elem) Tryz.func278 (by kernel_rfl) (by kernel_rfl) (by kernel_rfl) (by kernel_rfl)
  have h38 := @run_callFunc_extern Tryz.prog 279 _ (ReflectliteType.relation "Implements" ReflectliteType.implements_) Tryz.func279 (by kernel_rfl) (by kernel_rfl) (by kernel_rfl) (by kernel_rfl)
  have h10 := @run_callFunc_extern Tryz.prog 116 _ ReflectliteType.typeOf Tryz.func116 (by kernel_rfl) (by kernel_rfl) (by kernel_rfl) (by kernel_rfl)
  have h35 := @run_callFunc_extern Tryz.prog 276 _ (ReflectliteType.relation "AssignableTo" ReflectliteType.assignableTo) Tryz.func276 (by kernel_rfl) (by kernel_rfl) (by kernel_rfl) (by kernel_rfl)
  have h11 := @run_callFunc_extern Tryz.prog 168 _ (ReflectliteValue.method (ReflectliteValue.valueError "reflectlite.Value.Elem" 0) ReflectliteValue.elem) Tryz.func168 (by kernel_rfl) (by kernel_rfl) (by kernel_rfl) (by kernel_rfl)
  have h12 := @run_callFunc_extern Tryz.prog 169 _ ReflectliteValue.set Tryz.func169 (by kernel_rfl) (by kernel_rfl) (by kernel_rfl) (by kernel_rfl)
  have tO := Tryz.typeOf25
  have mA := Tryz.methodAssignableTo
  have a25 := Tryz.assignable25
  have v25 := Tryz.valueOf25
  have f6 := Tryz.valueOf27
  have f7 := Tryz.type27
  have mK := Tryz.methodKind
  have mE := Tryz.methodElem
  have mI := Tryz.methodImplements
  have k27 := Tryz.kind27
  have k25 := Tryz.kind25
  have e27 := Tryz.elem27
  have i25 := Tryz.implements25
  have n8 := Tryz.isNil27 ⟨w.heap.size, 0, none⟩ t ((w.alloc (.cells #[.pointer (some t)] 98)).alloc (.cells #[.pointer (some ⟨10, 98, none⟩), .pointer (some ⟨w.heap.size, 0, none⟩), .int .u64 150] 144)) (by simp)
  have hlt : 0 < w.heap.size := by
    rcases Nat.lt_or_ge 0 w.heap.size with h | h
    · exact h
    · simp [World.cell?, Array.getElem?_eq_none h] at hg
  have hg2 : ((w.alloc (.cells #[.pointer (some t)] 98)).alloc (.cells #[.pointer (some ⟨10, 98, none⟩), .pointer (some ⟨w.heap.size, 0, none⟩), .int .u64 150] 144)).cell? ⟨0, 0, none⟩ = some (.iface 187 (.agg #[.pointer (some ⟨10, 36, none⟩)])) := by
    rw [World.cell?_alloc_lt _ _ ⟨0, 0, none⟩ (by simp), World.cell?_alloc_lt _ _ ⟨0, 0, none⟩ hlt]; exact hg
  have htl : t.block < w.heap.size := by
    rcases Nat.lt_or_ge t.block w.heap.size with h | h
    · exact h
    · simp [World.cell?, Array.getElem?_eq_none h] at ht0
  have el := Tryz.elemV27 ⟨w.heap.size, 0, none⟩ t (((w.alloc (.cells #[.pointer (some t)] 98)).alloc (.cells #[.pointer (some ⟨10, 98, none⟩), .pointer (some ⟨w.heap.size, 0, none⟩), .int .u64 150] 144)).alloc (.cells #[.pointer (some ⟨10, 98, none⟩), .pointer (some ⟨w.heap.size, 0, none⟩), .int .u64 150] 144)) (by rw [World.cell?_alloc_lt _ _ ⟨w.heap.size, 0, none⟩ (by simp; omega)]; simp)
  have st := Tryz.set25 t ⟨w.heap.size + 1 + 1 + 1, 0, none⟩ e old ((((w.alloc (.cells #[.pointer (some t)] 98)).alloc (.cells #[.pointer (some ⟨10, 98, none⟩), .pointer (some ⟨w.heap.size, 0, none⟩), .int .u64 150] 144)).alloc (.cells #[.pointer (some ⟨10, 98, none⟩), .pointer (some ⟨w.heap.size, 0, none⟩), .int .u64 150] 144)).alloc (.cells #[.pointer (some e)] 23))
    (by rw [World.cell?_alloc_at _ _ _ _ (by simp)]; rfl)
    (by rw [World.cell?_alloc_lt _ _ t (by simp; omega), World.cell?_alloc_lt _ _ t (by simp; omega), World.cell?_alloc_lt _ _ t (by simp; omega), World.cell?_alloc_lt _ _ t htl]; exact ht0)
    (by rw [World.frozen?_alloc_old _ _ t (by simp; omega), World.frozen?_alloc_old _ _ t (by simp; omega), World.frozen?_alloc_old _ _ t (by simp; omega), World.frozen?_alloc_old _ _ t (Nat.ne_of_lt htl)]; exact hf0)
  go_enter Tryz.func61, Tryz.ntmps61
  go_wp2
  refine wp_loop_rounds 1 ?_
  rw [rounds_succ]
  go_wp2
  go_ret
  exact ⟨rfl, rfl⟩

theorem as_hit2 (e t : Addr) (old : Value) (w : World) (hg : w.cell? ⟨0, 0, none⟩ = some (.iface 187 (.agg #[.pointer (some ⟨10, 36, none⟩)]))) (ht0 : w.cell? t = some old) (hf0 : w.frozen? t = false) :
    Calls Tryz.prog 61 #[.iface 23 (.pointer (some e)), .iface 98 (.pointer (some t))] w fun ev w' => ev = .returned (.bool true) ∧ Below t.block w w' ∧ w'.cell? t = some (.pointer (some e)) ∧ (∀ k, k ≠ t.block → k < w.heap.size → w'.heap[k]? = w.heap[k]?) := by
  refine (as_hit e t old w hg ht0 hf0).mono fun ev w' ⟨h1, h2⟩ => ?_
  subst h2
  have htl : t.block < w.heap.size := World.block_lt_of_cell? w t ht0
  have hb := ((((Below.refl w.heap.size w).alloc (Nat.le_refl _) (.cells #[.pointer (some t)] 98)).alloc (by simp) (.cells #[.pointer (some ⟨10, 98, none⟩), .pointer (some ⟨w.heap.size, 0, none⟩), .int .u64 150] 144)).alloc (by simp; omega) (.cells #[.pointer (some ⟨10, 98, none⟩), .pointer (some ⟨w.heap.size, 0, none⟩), .int .u64 150] 144)).alloc (by simp; omega) (.cells #[.pointer (some e)] 23)
  refine ⟨h1, (hb.mono (Nat.le_of_lt htl)).setCell (Nat.le_refl _) _, ?_, ?_⟩
  · have hc := hb.cell htl
    rw [ht0] at hc
    exact World.cell?_setCell_same _ _ _ hc
  · intro k hk hkl
    rw [Below.heap_setCell _ _ _ _ hk]
    exact hb.block k hkl
end Go.Proofs.YtpbkeamjdolpgaaGreatDoor
namespace Go.Proofs.YtpbkeamjdolpgaaGreatDoor
open Go.RowKit Go.Lib Go.Extern.Stop Go.Stop Go.Extern

theorem run_eql_iface_int {P : Program} (w : World) {ti tp : TypeId} {ms : Array (String × TypeId)} {k : IntKind} {i : TypeInfo} (a : Int)
    (hi : P.underlying ti = some (.interface ms)) (hp : P.underlying tp = some (.int k)) (hinfo : P.info? tp = some i) (hcomp : i.comparable = true) :
    (binOp .eql ti (.iface tp (.int k a)) (.iface tp (.int k a))).run P w = .ok (.bool true) w := by
  have h : ∀ d : Nat, (Op.equalIn (d + 2) ti (.iface tp (.int k a)) (.iface tp (.int k a))).run P w = .ok true w := fun d => by
    simp [Op.equalIn, run_underlying hi, run_underlying hp, typeInfo, hinfo, hcomp]
  simp only [binOp]
  simp [Op.equal, Op.maxDepth, h 9998]

theorem Tryz.isTypeOf (v : Value) (w : World) : (Extern.ReflectliteType.typeOf #[.iface 30 v]).run Tryz.prog w = .ok (.iface 187 (.agg #[.pointer (some ⟨10, 30, none⟩)])) w := by kernel_rfl
theorem Tryz.cmpEntry : ∃ M : Array Value → Sem Value, (∀ args w, (callFunc 277 args).run Tryz.prog w = ((M args).run Tryz.prog w).andThen fun v w' => .ok (.value v) w') ∧
    ∀ w, (M #[.agg #[.pointer (some ⟨10, 30, none⟩)]]).run Tryz.prog w = .ok (.bool true) w :=
  ⟨Extern.ReflectliteType.method fun t => do Extern.Rtype.noPackHeld "Comparable" t; pure (.bool (← typeInfo t).comparable),
    @run_callFunc_extern Tryz.prog 277 _ _ Tryz.func277 (by kernel_rfl) (by kernel_rfl) (by kernel_rfl) (by kernel_rfl), fun w => by kernel_rfl⟩
theorem Tryz.isMethodComparable (v : Value) (w : World) : (Go.method 403 187 v "Comparable").run Tryz.prog w = .ok (277, v) w := by kernel_rfl
theorem Tryz.isComp : (Tryz.prog.info? 30).map (·.comparable) = some true := by kernel_rfl
theorem Tryz.noIsF (v : Value) (xT : TypeId) (w : World) : (Instr.typeAssert (.iface 23 v) xT 199 true).run Tryz.prog w = .ok (.tuple #[.nilIface, .bool false]) w := run_typeAssert_lacksB Tryz.underlying199 (by kernel_rfl) (by kernel_rfl) v xT w
theorem Tryz.hasUnwrapF (v : Value) (xT : TypeId) (w : World) : (Instr.typeAssert (.iface 23 v) xT 194 true).run Tryz.prog w = .ok (.tuple #[.iface 23 v, .bool true]) w := run_typeAssert_hasB Tryz.underlying194 (by kernel_rfl) v xT w
theorem Tryz.methodUnwrap (v : Value) (w : World) : (Go.method 403 23 v "Unwrap").run Tryz.prog w = .ok (270, v) w := by kernel_rfl

set_option maxHeartbeats 4000000 in
theorem is_fault (b : Nat) (c : Int) (w : World) (h1 : w.cell? ⟨b, 0, none⟩ = some (.int .i64 c)) :
    Calls Tryz.prog 62 #[.iface 23 (.pointer (some ⟨b, 0, none⟩)), .iface 30 (.int .i64 c)] w fun e w' => e = .returned (.bool true) ∧ w = w' := by
  obtain ⟨i, hi, hcmp⟩ := Option.map_eq_some_iff.1 Tryz.isComp
  have h8 := @run_callFunc_extern Tryz.prog 116 _ Extern.ReflectliteType.typeOf Tryz.func116 (by kernel_rfl) (by kernel_rfl) (by kernel_rfl) (by kernel_rfl)
  obtain ⟨M, h32, cT⟩ := Tryz.cmpEntry
  have tT := Tryz.isTypeOf
  have mR := Tryz.isMethodComparable
  have nE := Tryz.noIsF
  have uE := Tryz.hasUnwrapF
  have mU := Tryz.methodUnwrap
  have heq := run_eql_iface_int (P := Tryz.prog) w c Tryz.underlying36 Tryz.underlying30 hi hcmp
  have hty := run_eql_iface_types (P := Tryz.prog) 23 30 (.pointer (some ⟨b, 0, none⟩)) (.int .i64 c) Tryz.underlying36 (by decide) w
  clear hi hcmp
  go_enter Tryz.func62, Tryz.ntmps62
  go_wp2
  refine wp_loop_rounds 2 ?_
  rw [rounds_succ]
  go_wp2
  rw [rounds_succ]
  go_wp2
  go_ret
  exact ⟨rfl, rfl⟩

end Go.Proofs.YtpbkeamjdolpgaaGreatDoor
namespace Go.Proofs.YtpbkeamjdolpgaaGreatDoor
open Go.RowKit Go.Lib

def GlE (w : World) : Prop := w.cell? ⟨0, 0, none⟩ = some (.iface 187 (.agg #[.pointer (some ⟨10, 36, none⟩)]))
theorem GlE.below {w w' : World} (h : GlE w) (hb : Below w.heap.size w w') : GlE w' := by
  unfold GlE at h ⊢
  rw [hb.cell (World.block_lt_of_cell? w _ h)]
  exact h
end Go.Proofs.YtpbkeamjdolpgaaGreatDoor
namespace Go.Proofs.YtpbkeamjdolpgaaGreatDoor
open Go.RowKit Go.Lib Go.Shelf Go.Sort

end Go.Proofs.YtpbkeamjdolpgaaGreatDoor
namespace Go.Proofs.YtpbkeamjdolpgaaGreatDoor
open Go.RowKit Go.Lib Go.Shelf Go.Sort

end Go.Proofs.YtpbkeamjdolpgaaGreatDoor
namespace Go.Proofs.YtpbkeamjdolpgaaGreatDoor
open Go.RowKit Go.Lib Go.Shelf Go.Sort

end Go.Proofs.YtpbkeamjdolpgaaGreatDoor
namespace Go.Proofs.YtpbkeamjdolpgaaGreatDoor
open Go.RowKit Go.Lib Go.Shelf Go.Sort

end Go.Proofs.YtpbkeamjdolpgaaGreatDoor
namespace Go.Proofs.YtpbkeamjdolpgaaGreatDoor
open Go.RowKit Go.Lib Go.Shelf Go.Sort

end Go.Proofs.YtpbkeamjdolpgaaGreatDoor
namespace Go.Proofs.YtpbkeamjdolpgaaGreatDoor
open Go.RowKit Go.Lib Go.Shelf Go.Sort

end Go.Proofs.YtpbkeamjdolpgaaGreatDoor
namespace Go.Proofs.YtpbkeamjdolpgaaGreatDoor
open Go.ChangeShapes Go.WideShapes Go.RowKit Go.Lib Go.ChangeAt

theorem s_own : ownKnob Tryz.prog.godebug = none := by kernel_rfl
theorem s_et : Tryz.prog.globalNamed "errors.errorType" = some 0 := by kernel_rfl
theorem s_rt : (Tryz.prog.cutTypes.find? (·.1 == "internal/reflectlite.rtype")).map (·.2) = some 187 := by kernel_rfl
theorem s_oneRow : ((List.range 303).filter fun t => Tryz.prog.rowNamed t [101, 114, 114, 111, 114]) = [36] := by kernel_rfl
theorem s_size : Tryz.prog.types.size = 303 := by kernel_rfl

def seatLaid : List (String × DataW Unit) := [("unicode/utf8.acceptRanges", Rows.laid_unicode_utf8_acceptRanges), ("errors.errorType", Rows.laid_errors_errorType), ("unicode.properties", Rows.laid_unicode_properties), ("unicode.Digit", Rows.laid_unicode_Digit), ("unicode.Letter", Rows.laid_unicode_Letter), ("unicode/utf8.first", Rows.laid_unicode_utf8_first)]
def seatPlain : List (String × DataW Unit) := [("unicode/utf8.acceptRanges", Rows.laid_unicode_utf8_acceptRanges), ("unicode.properties", Rows.laid_unicode_properties), ("unicode.Digit", Rows.laid_unicode_Digit), ("unicode.Letter", Rows.laid_unicode_Letter), ("unicode/utf8.first", Rows.laid_unicode_utf8_first)]
theorem s_filter : (seatLaid.filter fun x => x.2.handleName?.isNone) = seatPlain := by kernel_rfl
theorem s_filterH : (seatLaid.filter fun x => x.2.handleName?.isSome) = [("errors.errorType", Rows.laid_errors_errorType)] := by kernel_rfl
theorem s_accept : (Rows.laid_unicode_utf8_acceptRanges : DataW Unit) = acceptData := by kernel_rfl
theorem s_props : (Rows.laid_unicode_properties : DataW Unit) = tabData .u8 propertiesTab := by kernel_rfl
theorem s_digit : (Rows.laid_unicode_Digit : DataW Unit) = Pinned.digit := by kernel_rfl
theorem s_letter : (Rows.laid_unicode_Letter : DataW Unit) = Pinned.letter := by kernel_rfl
theorem s_first : (Rows.laid_unicode_utf8_first : DataW Unit) = Pinned.utf8First := by kernel_rfl

theorem tabIs_of_reads {P : Program} {W : World} {name : String} {k : IntKind} {zs : List Int} {g : Nat} {t e : TypeId} {n : Nat}
    (hg : P.globalNamed name = some g) (hty : (P.globals[g]?).map (·.type) = some t) (ht : P.underlying t = some (.array n e)) (he : P.underlying e = some (.int k)) (hce : P.cellsOf e = 1) (hct : P.cellsOf t = n)
    (h : VarReads P W name (tabData k zs)) : TabIs P W name k zs := by
  obtain ⟨g', t', cs, fuel, p, hg', ht', hvar, hd⟩ := h
  obtain rfl := Option.some.inj (hg.symm.trans hg')
  obtain rfl := Option.some.inj (hty.symm.trans ht')
  unfold TabIs
  rw [hvar, ← cells_of_tab ht he hce hct hd]

theorem gl_of_laid {W : World} (h : laidMetH Tryz.prog seatLaid W) : Gl W := by
  have h1 := (laidMetH_iff.1 h).1
  rw [s_filter] at h1
  have hp : VarReads Tryz.prog W "unicode.properties" (tabData .u8 propertiesTab) := s_props ▸ Lib.laidMet.reads h1 (.tail _ (.head _))
  have hd : VarReads Tryz.prog W "unicode.Digit" (rtabData digitT) := Pinned.digit_eq ▸ s_digit ▸ Lib.laidMet.reads h1 (.tail _ (.tail _ (.head _)))
  have hl : VarReads Tryz.prog W "unicode.Letter" (rtabData letterT) := Pinned.letter_eq ▸ s_letter ▸ Lib.laidMet.reads h1 (.tail _ (.tail _ (.tail _ (.head _))))
  have hf : VarReads Tryz.prog W "unicode/utf8.first" firstData := Pinned.utf8First_eq ▸ s_first ▸ Lib.laidMet.reads h1 (.tail _ (.tail _ (.tail _ (.tail _ (.head _)))))
  have ha : VarReads Tryz.prog W "unicode/utf8.acceptRanges" acceptData := s_accept ▸ Lib.laidMet.reads h1 (.head _)
  have xD : RExtra Tryz.prog Tryz.lays261_ren := ⟨by kernel_rfl, by kernel_rfl, by kernel_rfl, by kernel_rfl, by kernel_rfl, by kernel_rfl, by kernel_rfl, by kernel_rfl⟩
  have xU : U8Extra Tryz.prog Tryz.lays260_ren := ⟨by kernel_rfl, by kernel_rfl, by kernel_rfl, by kernel_rfl, by kernel_rfl, by kernel_rfl, by kernel_rfl⟩
  exact ⟨tabIs_of_reads (g := 1) (t := 202) (e := 5) (by kernel_rfl) (by kernel_rfl) Tryz.underlying202 Tryz.underlying5 (by kernel_rfl) (by kernel_rfl) hp,
    rvar_of_reads (g := 2) Tryz.lays261 xD (by kernel_rfl) (by kernel_rfl) hl, rvar_of_reads (g := 3) Tryz.lays261 xD (by kernel_rfl) (by kernel_rfl) hd, utf8Tabs_of_reads Tryz.lays260 xU hf ha⟩

theorem glE_of_laid {W : World} (h : laidMetH Tryz.prog seatLaid W) : GlE W := by
  have h2 := (laidMetH_iff.1 h).2
  rw [s_filterH] at h2
  obtain ⟨name, u, ty, e1, e2, e3, e4, e5⟩ := h2 _ (List.mem_singleton.2 rfl)
  have en : name = [101, 114, 114, 111, 114] := (Option.some.inj e1).symm
  subst en
  obtain rfl := Option.some.inj (s_rt.symm.trans e2)
  have hm : ty ∈ (List.range 303).filter fun t => Tryz.prog.rowNamed t [101, 114, 114, 111, 114] := List.mem_filter.2 ⟨List.mem_range.2 (by rw [← s_size]; exact e3), e4⟩
  rw [s_oneRow] at hm
  obtain rfl := List.mem_singleton.1 hm
  have hh : typeHandle Tryz.prog 36 = .pointer (some ⟨10, 36, none⟩) := by kernel_rfl
  rw [hh] at e5
  unfold GlE
  simpa using World.var?_cell s_et e5 0

theorem glT_of_laid {W : World} (h : laidMetH Tryz.prog seatLaid W) : Gl W ∧ GlE W := ⟨gl_of_laid h, glE_of_laid h⟩
/-! ### A world that meets the condition -/
noncomputable def seatWorld0 (os : Os) : World :=
  let w0 := World.holding Tryz.prog os ⟨#[], #[], []⟩
  { w0 with heap := w0.heap.modify 0 fun
      | .cells _ t frozen => .cells #[.iface 187 (.agg #[.pointer (some ⟨10, 36, none⟩)])] t frozen
      | o => o }
noncomputable def seatWorld (os : Os) : World := (seatWorld0 os).layVars Tryz.prog seatPlain
theorem seatWorld_os (os : Os) : (seatWorld os).os = os := World.layVars_os _ _ _
theorem seatWorld_shaped (os : Os) (args : Array Value) : ((seatWorld os).forCall (fun _ _ => 0) ⟨#[], args, []⟩).Shaped Tryz.prog := World.shaped_of_ZipB (by kernel_rfl) (by kernel_rfl)
theorem seatWorld_fits (os : Os) : (seatWorld0 os).layFits Tryz.prog seatPlain [] = true := by kernel_rfl
theorem seatWorld_ifaces (os : Os) : (seatWorld0 os).layIfaces Tryz.prog seatPlain (seatWorld os) = true := by kernel_rfl
theorem seatPlain_in : (seatPlain.filter fun x => (seatPlain.map (·.1)).contains x.1) = seatPlain := by kernel_rfl
theorem seatPlain_out : (seatPlain.filter fun x => !(seatPlain.map (·.1)).contains x.1) = [] := by kernel_rfl
theorem seatWorld_plain (os : Os) : laidMet Tryz.prog seatPlain (seatWorld os) :=
  laidMet_layVars (w0 := seatWorld0 os) (seatPlain.map (·.1)) [] (by rw [seatPlain_in]; rfl) (by rw [seatPlain_in]; exact seatWorld_fits os) (by rw [seatPlain_in]; exact seatWorld_ifaces os) (by rw [seatPlain_out]; exact LaidIn.none)
theorem seatWorld_handle (os : Os) : ([("errors.errorType", (Rows.laid_errors_errorType : DataW Unit))].all (handleAtB Tryz.prog (seatWorld os))) = true := by kernel_rfl
theorem seatWorld_met (os : Os) : laidMetH Tryz.prog seatLaid (seatWorld os) :=
  laidMetH_of_parts (by rw [s_filter]; exact seatWorld_plain os) (by rw [s_filterH]; exact seatWorld_handle os)
theorem seatWorld_call (os : Os) (args : Array Value) : laidMetH Tryz.prog seatLaid ((seatWorld os).forCall (fun _ _ => 0) ⟨#[], args, []⟩).memory :=
  (seatWorld_met os).of_heap (by simp [World.memory, World.forCall, Input.heap])
end Go.Proofs.YtpbkeamjdolpgaaGreatDoor
