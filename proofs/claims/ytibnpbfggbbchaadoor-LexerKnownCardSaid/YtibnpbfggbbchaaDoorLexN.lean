/- The walk of the statements' wakes. -/
import Derived.Test.YtibnpbfggbbchaaDoorLexM
namespace Go.Proofs.YtibnpbfggbbchaaDoor
open Go.RowKit Go.Lib

/-- What is known of errors.errorType. -/
def GlE (w : World) : Prop := w.cell? ⟨0, 0, none⟩ = some (.iface 92 (.agg #[.pointer (some ⟨7, 26, none⟩)]))
theorem GlE.below {w w' : World} (h : GlE w) (hb : Below w.heap.size w w') : GlE w' := by
  unfold GlE at h ⊢
  rw [hb.cell (World.block_lt_of_cell? w _ h)]
  exact h
theorem own_some {w : World} {base : Nat} {e : TypeId} {size : Nat} {v : Value} {n : Nat} {xs : List Value} (h : w.ownsRow base e size v n xs) (hn : 0 < n) :
    ∃ g cap, v = .slice (some ⟨g, 0, none⟩) n cap ∧ base ≤ g ∧ g < w.heap.size ∧ (∀ j, j < n * size → w.cell? ⟨g, j, none⟩ = xs[j]?) := by
  rcases h.2 with ⟨_, h2⟩ | ⟨g, cap, cur, h1, h2, h3, h4⟩
  · omega
  · refine ⟨g, cap, h1, h2, (Array.getElem?_eq_some_iff.1 h3).1, ?_⟩
    subst h1
    exact fun j hj => h.cellAt j hj

theorem toks_w1 : tokensL [97, 60, 61, 49, 46, 53, 48, 47, 47, 120] = .ok [(0, [97], 0), (2, [60, 61], 1), (1, [49, 46, 53, 48], 3)] := by kernel_rfl
theorem toks_w2 : tokensL [49, 50, 46] = .error (260, 2, [46]) := by kernel_rfl
theorem name_w3 : nameOk [120, 95, 49] = true := by kernel_rfl

def Wk1 (w : World) (e : Ending) (w' : World) : Prop :=
  ∃ g cap, e = .returned (.tuple #[.slice (some ⟨g, 0, none⟩) 3 cap, .nilIface]) ∧ w.heap.size ≤ g ∧ g < w'.heap.size ∧ w'.cell? ⟨g, 3, none⟩ = some (.int .i64 2) ∧ w'.cell? ⟨g, 4, none⟩ = some (.string ⟨#[60, 61]⟩) ∧ w'.cell? ⟨g, 5, none⟩ = some (.int .i64 1) ∧
    w'.cell? ⟨g, 7, none⟩ = some (.string ⟨#[49, 46, 53, 48]⟩) ∧ Below w.heap.size w w'
theorem wk1 (w : World) (hG : Gl w) : Calls Tryd.prog 13 #[.string ⟨#[97, 60, 61, 49, 46, 53, 48, 47, 47, 120]⟩] w (Wk1 w) := by
  refine (tokens_any _ w (by decide) hG).mono fun e w' h => ?_
  have e1 : tokensL (⟨#[97, 60, 61, 49, 46, 53, 48, 47, 47, 120]⟩ : ByteArray).data.toList = .ok [(0, [97], 0), (2, [60, 61], 1), (1, [49, 46, 53, 48], 3)] := toks_w1
  rw [e1] at h
  obtain ⟨hb, v, he, hown⟩ := h
  obtain ⟨g, cap, rfl, h1, h2, h3⟩ := own_some hown (by decide)
  exact ⟨g, cap, he, h1, h2, h3 3 (by decide), h3 4 (by decide), h3 5 (by decide), h3 7 (by decide), hb⟩
def Wk2 (w : World) (e : Ending) (w' : World) : Prop :=
  ∃ b, e = .returned (.tuple #[.slice none 0 0, .iface 32 (.pointer (some ⟨b, 0, none⟩))]) ∧ w.heap.size ≤ b ∧ w'.heap[b]? = some (.cells #[.int .i64 260, .int .i64 2, .string ⟨#[46]⟩] 46 (0, 0)) ∧ Below w.heap.size w w'
theorem wk2 (w : World) (hG : Gl w) : Calls Tryd.prog 13 #[.string ⟨#[49, 50, 46]⟩] w (Wk2 w) := by
  refine (tokens_any _ w (by decide) hG).mono fun e w' h => ?_
  have e1 : tokensL (⟨#[49, 50, 46]⟩ : ByteArray).data.toList = .error (260, 2, [46]) := toks_w2
  rw [e1] at h
  obtain ⟨hb, b, h1, h2, h3⟩ := h
  exact ⟨b, h2, h1, h3, hb⟩

set_option maxHeartbeats 4000000 in
set_option maxRecDepth 100000 in
theorem wakes_any (w : World) (hG : Gl w) (hE : GlE w) :
    Calls Tryd.prog 12 #[] w fun e w' => e = .returned (.bool true) ∧ Below w.heap.size w w' := by
  have c1 := wk1 w hG
  have c2 := fun W (hb : Below w.heap.size w W) => wk2 W (hG.below hb)
  have c4 : ∀ W, Below w.heap.size w W → Calls Tryd.prog 10 #[.string ⟨#[120, 95, 49]⟩] W fun e w' => e = .returned (.bool true) ∧ Below W.heap.size W w' := fun W hb => by
    have h := name_any ⟨#[120, 95, 49]⟩ W (by decide) (hG.below hb)
    rw [show nameOk (⟨#[120, 95, 49]⟩ : ByteArray).data.toList = true from name_w3] at h
    exact h
  clear hG
  go_enter Tryd.func12, Tryd.ntmps12
  go_wp2_with fail
  refine c1.mono ?_
  rintro e w1 ⟨g, cap, rfl, hg1, hg2, k3, k4, k5, k7, hb1⟩
  clear c1
  go_wp2_with fail
  refine (c2 _ hb1).mono ?_
  rintro e w2 ⟨b, rfl, hb0, hbk, hb2⟩
  clear c2
  have hb3 := (tr hb1 hb2).alloc (tr hb1 hb2).size (.cells #[.pointer none] 32)
  have hB3 : Below w1.heap.size w1 (w2.alloc (.cells #[.pointer none] 32)) := hb2.alloc hb2.size _
  have q3 := hB3.cell (p := ⟨g, 3, none⟩) hg2
  have q4 := hB3.cell (p := ⟨g, 4, none⟩) hg2
  have q5 := hB3.cell (p := ⟨g, 5, none⟩) hg2
  have q7 := hB3.cell (p := ⟨g, 7, none⟩) hg2
  rw [k3] at q3
  rw [k4] at q4
  rw [k5] at q5
  rw [k7] at q7
  have hbl : b < w2.heap.size := (Array.getElem?_eq_some_iff.1 hbk).1
  have cA := as_hit2 ⟨b, 0, none⟩ ⟨w2.heap.size, 0, none⟩ (.pointer none) (w2.alloc (.cells #[.pointer none] 32)) (hE.below hb3) (by simp) (by simp)
  have HE := Lib.hid hE
  clear k3 k4 k5 k7 hE hB3
  have hbk3 : ∀ w3 : World, (∀ k, k ≠ w2.heap.size → k < (w2.alloc (.cells #[.pointer none] 32)).heap.size → w3.heap[k]? = (w2.alloc (.cells #[.pointer none] 32)).heap[k]?) →
      w3.cell? ⟨b, 0, none⟩ = some (.int .i64 260) ∧ w3.cell? ⟨b, 1, none⟩ = some (.int .i64 2) ∧ w3.cell? ⟨b, 2, none⟩ = some (.string ⟨#[46]⟩) := by
    intro w3 h
    have h1 := h b (by omega) (by simp; omega)
    rw [Below.heap_alloc _ _ _ hbl, hbk] at h1
    exact ⟨cell_of_row w3 b 0 _ _ _ h1, cell_of_row w3 b 1 _ _ _ h1, cell_of_row w3 b 2 _ _ _ h1⟩
  go_wp2_with (first | (go_at_call 23; (with_reducible refine cA.mono ?_); rintro e w3 ⟨rfl, ha1, ha2, ha3⟩; obtain ⟨r0, r1, r2⟩ := hbk3 w3 ha3; have hb4 := (tr hb1 hb2).trans (((Below.refl w2.heap.size w2).alloc (Nat.le_refl _) _ |>.trans ha1).mono (tr hb1 hb2).size); clear ha3) | (go_at_call 10; (with_reducible refine (c4 _ hb4).mono ?_); rintro e w4 ⟨rfl, hb5⟩))
  go_ret
  exact ⟨rfl, tr hb4 hb5⟩
end Go.Proofs.YtibnpbfggbbchaaDoor
