/- The iterator that slices.Backward hands back, over the five levels. -/
import Derived.RangeFuncNested
import Derived.RangeFuncBound
import Derived.RangeFuncCalls
import Derived.RangeFuncLeaves
import Derived.Shelf.Abstract
import Derived.OwnWalkIn
import Derived.TacticsInMore
import Derived.LoopNIn
import Derived.LoopIn
import Derived.Test.YtpbkeamjdolpgaaGreatDoorB04
namespace Go.Proofs.YtpbkeamjdolpgaaGreatDoor
open Go.RowKit Go.Lib Go.Shelf

attribute [local go_sem] Oper.semAt_some

/-- Below block n all but block x stays. -/
def Kb (n x : Nat) (W W' : World) : Prop := ∀ k, k < n → k ≠ x → W'.heap[k]? = W.heap[k]?
theorem Kb.refl (n x : Nat) (W : World) : Kb n x W W := fun _ _ _ => rfl
theorem Kb.trans {n x : Nat} {A B C : World} (h : Kb n x A B) (k : Kb n x B C) : Kb n x A C := fun i h1 h2 => (k i h1 h2).trans (h i h1 h2)
theorem Kb.of_below {n x : Nat} {A B : World} (h : Below A.heap.size A B) (hn : n ≤ A.heap.size) : Kb n x A B := fun i h1 _ => h.block i (by omega)
theorem Kb.set {n x : Nat} {A B : World} (h : Kb n x A B) (o : Nat) (v : Value) : Kb n x A (B.setCell ⟨x, o, none⟩ v) := fun i h1 h2 => (Below.heap_setCell B _ v i h2).trans (h i h1 h2)
theorem Kb.put {n x : Nat} (W : World) (l : Nat) (o' : Obj) (hl : n ≤ l) : Kb n x W (W.putObj l o') := fun i h1 _ => World.putObj_heap_other (by omega)
def five : List Nat := [4, 3, 2, 1, 0]
/-- What a round is handed. -/
def sgE (g k : Nat) : Array Value := #[.int .i64 (k : Int), sgV (g + k) k]

set_option maxRecDepth 100000 in
set_option maxHeartbeats 8000000 in
theorem back1_in (F : Fence) (n : Nat) (hF : F.fn 195) (hro : F.round = none) (hn : 1 ≤ n) (l Bs n₀ x0 b c g : Nat) (hb : b < n₀) (hBsn : Bs < n₀) (hb2 : b ≠ x0) (hBs2 : Bs ≠ x0) (J Jx : List Nat → World → Prop)
    (hY : ∀ pre x W, J pre W → pre.length < 5 → YieldAt F (n - 1) Tryz.prog l (sgE g x) W fun e W' =>
      (e = .returned (.bool true) ∧ J (pre ++ [x]) W' ∧ Kb n₀ x0 W W') ∨ (e = .returned (.bool false) ∧ Jx (pre ++ [x]) W'))
    (W : World) (hBs : W.cell? ⟨Bs, 0, none⟩ = some (.slice (some ⟨b, 0, none⟩) 5 c)) (hc : ∀ k, k ≤ 4 → W.cell? ⟨b, k, none⟩ = some (sgV (g + k) k)) (h0 : J [] W) :
    CallsIn F n Tryz.prog 195 #[.func (.yield l) #[] #[], .pointer (some ⟨Bs, 0, none⟩)] W fun e W' => (∃ v, e = .returned v) ∧
      ((∃ ys, ys = five ∧ J ys W') ∨ (∃ pre, True ∧ Jx pre W')) := by
  refine callsIn_of_wp Tryz.func195 rfl hF ?_ hro
  simp only [Tryz.ntmps195, List.size_toArray, List.length_cons, List.length_nil, Nat.reduceAdd, Nat.reduceSub, Array.replicate_succ, Array.replicate_zero, List.push_toArray, List.append_toArray, List.nil_append, List.cons_append]
  gi_wp2
  gi_loopw [3] (fun i wr => ∃ k : Nat, k ≤ 5 ∧ i = .int .i64 (4 - (k : Int)) ∧ J (five.take k) wr ∧ Kb n₀ x0 W wr)
    (fun i _ => ((RowKit.intOf i) + 1).toNat)
  case atStart => exact ⟨0, by omega, rfl, h0, Kb.refl _ _ _⟩
  case round =>
    obtain ⟨k, hk, hi, hJs, hnx⟩ := hrel
    have hcb : wr.cell? ⟨Bs, 0, none⟩ = some (.slice (some ⟨b, 0, none⟩) 5 c) := (World.cell?_of_block (hnx Bs hBsn hBs2)).trans hBs
    have hcx : ∀ j, j ≤ 4 → wr.cell? ⟨b, j, none⟩ = some (sgV (g + j) j) := fun j h => (World.cell?_of_block (hnx b hb hb2)).trans (hc j h)
    match k, hk with
    | 0, _ =>
      have hi2 := hi.trans (show _ = Value.int .i64 4 from rfl)
      subst hi2
      obtain ⟨fn, tmps, assign, body, hy, hR⟩ := hY _ 4 wr hJs (by simp [five])
      have hcx' : wr.cell? ⟨b, 4, none⟩ = some (.slice (some ⟨g + 4, 0, none⟩) (signsK 4).length (signsK 4).length) := hcx 4 (by omega)
      have hy2 : (Instr.yield l #[.int .i64 4, .slice (some ⟨g + 4, 0, none⟩) (signsK 4).length (signsK 4).length]).run Tryz.prog wr = _ := hy
      clear hcx hi hy
      gi_wp2
      refine hR.mono ?_
      rintro e W3 (⟨rfl, hJ3, hk3⟩ | ⟨rfl, hJx3⟩)
      · gi_wp2
        go_roundw
        case rel => exact ⟨1, by omega, rfl, hJ3, hnx.trans hk3⟩
        case measure => simp [RowKit.intOf]
      · gi_wp2
        refine bodyPost_ret (results_none rfl _ _ _) rfl ?_
        exact ⟨⟨_, rfl⟩, .inr ⟨_, trivial, hJx3⟩⟩
    | 1, _ =>
      have hi2 := hi.trans (show _ = Value.int .i64 3 from rfl)
      subst hi2
      obtain ⟨fn, tmps, assign, body, hy, hR⟩ := hY _ 3 wr hJs (by simp [five])
      have hcx' : wr.cell? ⟨b, 3, none⟩ = some (.slice (some ⟨g + 3, 0, none⟩) (signsK 3).length (signsK 3).length) := hcx 3 (by omega)
      have hy2 : (Instr.yield l #[.int .i64 3, .slice (some ⟨g + 3, 0, none⟩) (signsK 3).length (signsK 3).length]).run Tryz.prog wr = _ := hy
      clear hcx hi hy
      gi_wp2
      refine hR.mono ?_
      rintro e W3 (⟨rfl, hJ3, hk3⟩ | ⟨rfl, hJx3⟩)
      · gi_wp2
        go_roundw
        case rel => exact ⟨2, by omega, rfl, hJ3, hnx.trans hk3⟩
        case measure => simp [RowKit.intOf]
      · gi_wp2
        refine bodyPost_ret (results_none rfl _ _ _) rfl ?_
        exact ⟨⟨_, rfl⟩, .inr ⟨_, trivial, hJx3⟩⟩
    | 2, _ =>
      have hi2 := hi.trans (show _ = Value.int .i64 2 from rfl)
      subst hi2
      obtain ⟨fn, tmps, assign, body, hy, hR⟩ := hY _ 2 wr hJs (by simp [five])
      have hcx' : wr.cell? ⟨b, 2, none⟩ = some (.slice (some ⟨g + 2, 0, none⟩) (signsK 2).length (signsK 2).length) := hcx 2 (by omega)
      have hy2 : (Instr.yield l #[.int .i64 2, .slice (some ⟨g + 2, 0, none⟩) (signsK 2).length (signsK 2).length]).run Tryz.prog wr = _ := hy
      clear hcx hi hy
      gi_wp2
      refine hR.mono ?_
      rintro e W3 (⟨rfl, hJ3, hk3⟩ | ⟨rfl, hJx3⟩)
      · gi_wp2
        go_roundw
        case rel => exact ⟨3, by omega, rfl, hJ3, hnx.trans hk3⟩
        case measure => simp [RowKit.intOf]
      · gi_wp2
        refine bodyPost_ret (results_none rfl _ _ _) rfl ?_
        exact ⟨⟨_, rfl⟩, .inr ⟨_, trivial, hJx3⟩⟩
    | 3, _ =>
      have hi2 := hi.trans (show _ = Value.int .i64 1 from rfl)
      subst hi2
      obtain ⟨fn, tmps, assign, body, hy, hR⟩ := hY _ 1 wr hJs (by simp [five])
      have hcx' : wr.cell? ⟨b, 1, none⟩ = some (.slice (some ⟨g + 1, 0, none⟩) (signsK 1).length (signsK 1).length) := hcx 1 (by omega)
      have hy2 : (Instr.yield l #[.int .i64 1, .slice (some ⟨g + 1, 0, none⟩) (signsK 1).length (signsK 1).length]).run Tryz.prog wr = _ := hy
      clear hcx hi hy
      gi_wp2
      refine hR.mono ?_
      rintro e W3 (⟨rfl, hJ3, hk3⟩ | ⟨rfl, hJx3⟩)
      · gi_wp2
        go_roundw
        case rel => exact ⟨4, by omega, rfl, hJ3, hnx.trans hk3⟩
        case measure => simp [RowKit.intOf]
      · gi_wp2
        refine bodyPost_ret (results_none rfl _ _ _) rfl ?_
        exact ⟨⟨_, rfl⟩, .inr ⟨_, trivial, hJx3⟩⟩
    | 4, _ =>
      have hi2 := hi.trans (show _ = Value.int .i64 0 from rfl)
      subst hi2
      obtain ⟨fn, tmps, assign, body, hy, hR⟩ := hY _ 0 wr hJs (by simp [five])
      have hcx' : wr.cell? ⟨b, 0, none⟩ = some (.slice (some ⟨g, 0, none⟩) (signsK 0).length (signsK 0).length) := hcx 0 (by omega)
      have hy2 : (Instr.yield l #[.int .i64 0, .slice (some ⟨g, 0, none⟩) (signsK 0).length (signsK 0).length]).run Tryz.prog wr = _ := hy
      clear hcx hi hy
      gi_wp2
      refine hR.mono ?_
      rintro e W3 (⟨rfl, hJ3, hk3⟩ | ⟨rfl, hJx3⟩)
      · gi_wp2
        go_roundw
        case rel => exact ⟨5, by omega, rfl, hJ3, hnx.trans hk3⟩
        case measure => simp [RowKit.intOf]
      · gi_wp2
        refine bodyPost_ret (results_none rfl _ _ _) rfl ?_
        exact ⟨⟨_, rfl⟩, .inr ⟨_, trivial, hJx3⟩⟩
    | 5, _ =>
      have hi2 := hi.trans (show _ = Value.int .i64 (-1) from rfl)
      subst hi2
      clear hcx hi
      gi_wp2
      go_end0
      exact ⟨⟨_, rfl⟩, .inl ⟨_, rfl, hJs⟩⟩
theorem back_stops (F : Fence) (n : Nat) (hF : F.fn 195) (hro : F.round = none) (hn : 1 ≤ n) (Bs n₀ x0 b c g : Nat) (w : World) (hb : b < n₀) (hBsn : Bs < n₀) (hb2 : b ≠ x0) (hBs2 : Bs ≠ x0) (hn₀ : n₀ ≤ w.heap.size)
    (hBs : w.cell? ⟨Bs, 0, none⟩ = some (.slice (some ⟨b, 0, none⟩) 5 c)) (hc : ∀ k, k ≤ 4 → w.cell? ⟨b, k, none⟩ = some (sgV (g + k) k)) :
    SeqStopsK F n Tryz.prog 195 #[.pointer (some ⟨Bs, 0, none⟩)] (sgE g) (Kb n₀ x0) (fun ys => ys = five) (fun _ => True) 5 w := fun l J Jx W hW _ _ hY h0 =>
  back1_in F n hF hro hn l Bs n₀ x0 b c g hb hBsn hb2 hBs2 J Jx hY W ((hW.cell (p := ⟨Bs, 0, none⟩) (by show Bs < _; omega)).trans hBs) (fun k hk => (hW.cell (p := ⟨b, k, none⟩) (by show b < _; omega)).trans (hc k hk)) h0
end Go.Proofs.YtpbkeamjdolpgaaGreatDoor
