/- The reference's parser: what an own write leaves; what its methods promise. -/
import Derived.Test.YtpbkeamjdolpgaaGreatDoorTreeQc
namespace Go.Proofs.YtpbkeamjdolpgaaGreatDoor
open Go.RowKit Go.Lib Go.Shelf

/-- A block that holds no fault is turned, or grown: the parser's state stays. -/
theorem RSt.turn {C : Ctx} {w w' : World} {b : Bool} {p v : Nat} (h : RSt C w b p) (h0 : ∀ (g i : Nat) (u : Tk), C.ts[i]? = some u → C.x = some ⟨g, 0, none⟩ → g ≠ v) (hv : C.pb ≠ v) {xs : Array Value} {t : TypeId} {f : Nat × Nat} (ht : w.heap[v]? = some (.cells xs t f)) (hne : t ≠ 61)
    (hk : ∀ k, k < w.heap.size → k ≠ v → w'.heap[k]? = w.heap[k]?) : RSt C w' b p := by
  obtain ⟨a, h1, h2, h3⟩ := h.blk
  refine ⟨⟨a, (hk _ h.lt hv).trans h1, h2, fun e => ?_⟩, ?_, h.xne, h.le, h.len⟩
  · obtain ⟨g, k1, k2, k3⟩ := h3 e
    refine ⟨g, k1, k2, (hk g (Array.getElem?_eq_some_iff.1 k3).1 ?_).trans k3⟩
    intro e2
    subst e2
    rw [ht] at k3
    simp only [Option.some.injEq, Obj.cells.injEq] at k3
    exact hne k3.2.1
  · intro i u hu
    obtain ⟨g, j1, j2, j3, j4⟩ := h.row i u hu
    have hg : g < w.heap.size := World.block_lt_of_cell? w _ j2
    have hn := h0 g i u hu j1
    exact ⟨g, j1, (World.cell?_of_block (hk g hg hn)).trans j2, (World.cell?_of_block (hk g hg hn)).trans j3, (World.cell?_of_block (hk g hg hn)).trans j4⟩
theorem RSt.set {C : Ctx} {w : World} {b : Bool} {p : Nat} (h : RSt C w b p) (a : Addr) (u : Value) (h0 : ∀ (g i : Nat) (u : Tk), C.ts[i]? = some u → C.x = some ⟨g, 0, none⟩ → g ≠ a.block) (hv : C.pb ≠ a.block) {xs : Array Value} {t : TypeId} {f : Nat × Nat} (ht : w.heap[a.block]? = some (.cells xs t f)) (hne : t ≠ 61) : RSt C (w.setCell a u) b p :=
  h.turn h0 hv ht hne fun k _ hn => Below.heap_setCell w a u k hn

/-- Where the tokens lie. -/
theorem RSt.xlt {C : Ctx} {w : World} {b : Bool} {p : Nat} (h : RSt C w b p) : ∀ (g i : Nat) (u : Tk), C.ts[i]? = some u → C.x = some ⟨g, 0, none⟩ → g < w.heap.size := by
  intro g i u hu hx
  obtain ⟨g', j1, j2, _⟩ := h.row i u hu
  rw [hx] at j1
  cases j1
  exact World.block_lt_of_cell? w _ j2
/-- What is known behind an append to a row of the call's own. -/
theorem app_step {C : Ctx} {w w5 W w6 : World} {b : Bool} {p B S : Nat} {v v' : Value} {acc : List Nd} {k : Int} {n : List UInt8} {kids : List Nd} {pp : Int} {y : Option Addr} {c : Nat} {xs : List Value}
    (hx : ∀ (g i : Nat) (u : Tk), C.ts[i]? = some u → C.x = some ⟨g, 0, none⟩ → g < B) (hpb : C.pb < B) (hs : RSt C w5 b p) (ho : Ow C.pb w w5) (hwB : w.heap.size ≤ B) (hW : Below w5.heap.size w5 W)
    (hown : w5.ownsRow B 53 4 v acc.length xs) (hf : NFlat w5 (fun j => B ≤ j ∧ some j ≠ v.ownBlock) acc xs) (hk : NdRow w5 (fun j => S ≤ j) kids y) (hS : ∀ j, v.ownBlock = some j → j < S) (hBS : B ≤ S)
    (hown' : w6.ownsRow B 53 4 v' (acc.length + 1) (xs ++ [.int .i64 k, .string ⟨n.toArray⟩, .slice y kids.length c, .int .i64 pp])) (hgrow : W.grownBy w6 v.ownBlock) (hfresh : v'.ownBlock = v.ownBlock ∨ ∀ k, v'.ownBlock = some k → W.heap.size ≤ k) :
    RSt C w6 b p ∧ RowOwn w6 B v' (acc ++ [.mk k n kids pp]) ∧ Ow C.pb w w6 := by
  have hlt := fun j hj => hown.lt j hj
  refine ⟨?_, ?_, ((ho.below hW).grown hgrow fun j hj => Nat.le_trans hwB (hlt j hj).1)⟩
  · have hs1 := hs.below hW
    cases hv : v.ownBlock with
    | none => exact hs1.below ⟨hgrow.os, hgrow.tape, hgrow.output, hgrow.size, fun j hj => hgrow.block j hj (by rw [hv]; simp)⟩
    | some g =>
      have hg := hlt g hv
      obtain ⟨cur, hc⟩ : ∃ cur, w5.heap[g]? = some (.cells cur 53 (0, 0)) := by
        rcases hown.2 with ⟨rfl, _⟩ | ⟨g', cap, cur, rfl, _, h6, _⟩
        · simp [Value.ownBlock] at hv
        · simp [Value.ownBlock] at hv
          subst hv
          exact ⟨cur, h6⟩
      exact hs1.turn (fun g' i u hu hx' => by have := hx g' i u hu hx'; omega) (by omega) ((hW.block g hg.2).trans hc) (by decide) fun j hj hn => hgrow.block j hj (by rw [hv]; intro e; cases e; exact hn rfl)
  · refine RowOwn.snoc (a := [.int .i64 k, .string ⟨n.toArray⟩, .slice y kids.length c, .int .i64 pp]) (NFlat.mono (fun b h1 _ => h1) (fun b _ h2 => hW.block b h2) hf) ⟨y, c, rfl, ?_⟩ hown' hgrow hfresh
    exact NdRow.mono (fun b h1 _ => ⟨Nat.le_trans hBS h1, fun e => by have := hS b e.symm; omega⟩) (fun b _ h2 => hW.block b h2) _ _ hk

/-- What a method of the reference's parser that tells of a node hands back. -/
def RFinN (C : Ctx) (w : World) (one : Nat → Res Nd) (b : Bool) (p : Nat) (e : Ending) (w' : World) : Prop :=
  ∃ b' p' k n kids pp y c, Mt (Tot one b p) b' p' (.mk k n kids pp) ∧ e = .returned (.agg #[.int .i64 k, .string ⟨n.toArray⟩, .slice y kids.length c, .int .i64 pp]) ∧ NdRow w' (fun j => w.heap.size ≤ j) kids y ∧ RSt C w' b' p' ∧ Ow C.pb w w'
/-- .. of a row. -/
def RFinR (C : Ctx) (w : World) (row : Nat → Res (List Nd)) (b : Bool) (p : Nat) (e : Ending) (w' : World) : Prop :=
  ∃ b' p' l v, Mt (Tot row b p) b' p' l ∧ e = .returned v ∧ RowOwn w' w.heap.size v l ∧ RSt C w' b' p' ∧ Ow C.pb w w'
/-- A method's promise. -/
abbrev ROne (C : Ctx) (F : Nat) (R : Nat → Res Nd) : Prop := ∀ w b p, RSt C w b p → Tot R b p ≠ .out → Calls Tryz.prog F #[.pointer (some ⟨C.pb, 0, none⟩)] w (RFinN C w R b p)
/-- .. where its fuel is enough for something (with a fault told nothing is asked of it). -/
abbrev ROneQ (C : Ctx) (F : Nat) (R : Nat → Res Nd) : Prop := ∀ w b p, RSt C w b p → Tot R b p ≠ .out → (∃ q, R q ≠ .out) → Calls Tryz.prog F #[.pointer (some ⟨C.pb, 0, none⟩)] w (RFinN C w R b p)
/-- What is told at the end. -/
theorem Mt.ret {A : Type} (x : A) (b : Bool) (p : Nat) : Mt (Tot (fun q => .ok x q) b p) b p x := by
  cases b
  · exact ⟨rfl, rfl, rfl⟩
  · exact ⟨rfl, rfl⟩
theorem tot_if_t {A : Type} {ts : List Tk} {s : List UInt8} {b : Bool} {p : Nat} (h : (!b && isT ts p s) = true) (R S : Nat → Res A) : Tot (fun q => if isT ts q s then R q else S q) b p = Tot R b p := by
  cases b
  · simp at h
    simp [Tot, h]
  · simp at h
theorem tot_if_f {A : Type} {ts : List Tk} {s : List UInt8} {b : Bool} {p : Nat} (h : (!b && isT ts p s) = false) (R S : Nat → Res A) : Tot (fun q => if isT ts q s then R q else S q) b p = Tot S b p := by
  cases b
  · simp at h
    simp [Tot, h]
  · rfl
theorem Mt.place {ts : List Tk} {L : Nat} {s : List UInt8} {b b' : Bool} {p p' a : Nat} (h : Mt (Tot (takeP ts L s) b p) b' p' a) : Mt (Tot (takeP ts L s) b p) b' p' (placeT ts L p) := by
  cases b
  · rw [tot_go] at h ⊢
    unfold takeP at h ⊢
    cases hi : isT ts p s
    · rw [hi] at h
      exact h
    · rw [hi] at h
      exact ⟨h.1, h.2.1, rfl⟩
  · exact h
end Go.Proofs.YtpbkeamjdolpgaaGreatDoor
