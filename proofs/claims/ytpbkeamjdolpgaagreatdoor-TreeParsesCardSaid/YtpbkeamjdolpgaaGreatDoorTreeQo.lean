/- Nodes that were told are spoilt: what that leaves. The walks of the statement's fault and spoil. -/
import Derived.Test.YtpbkeamjdolpgaaGreatDoorTreeQn
import Derived.Test.YtpbkeamjdolpgaaGreatDoorB23
import Derived.Deep.RegionWith
import Derived.Deep.RegionHeld3
namespace Go.Proofs.YtpbkeamjdolpgaaGreatDoor
open Go.RowKit Go.Lib Go.Extern.Stop Go.Stop Go.Extern

/-- Of w's blocks that are let in some nodes are spoilt; all else is as it was. -/
structure SpW (ok : Nat → Prop) (w0 w : World) : Prop where
  os : w.os = w0.os
  tape : w.tape = w0.tape
  output : w.output = w0.output
  size : w0.heap.size ≤ w.heap.size
  others : ∀ b, b < w0.heap.size → ¬ ok b → w.heap[b]? = w0.heap[b]?
  node : ∀ b o, ok b → b < w0.heap.size → o % 4 = 0 → (∀ j, j < 4 → w.cell? ⟨b, o + j, none⟩ = w0.cell? ⟨b, o + j, none⟩) ∨
    (w.cell? ⟨b, o, none⟩ = some (.int .i64 77) ∧ w.cell? ⟨b, o + 1, none⟩ = some (.string ⟨#[]⟩) ∧ w.cell? ⟨b, o + 2, none⟩ = some (.slice none 0 0) ∧ w.cell? ⟨b, o + 3, none⟩ = some (.int .i64 0))
  fr : ∀ b q, ok b → b < w0.heap.size → w.frozen? ⟨b, q, none⟩ = w0.frozen? ⟨b, q, none⟩
theorem SpW.refl (ok : Nat → Prop) (w : World) : SpW ok w w := ⟨rfl, rfl, rfl, Nat.le_refl _, fun _ _ _ => rfl, fun _ _ _ _ _ => .inl fun _ _ => rfl, fun _ _ _ _ => rfl⟩
theorem SpW.spoil {ok : Nat → Prop} {w0 w : World} {B q : Nat} (h : SpW ok w0 w) (hB : ok B) (hBl : B < w0.heap.size) (hal : q % 4 = 0) (hc : ∀ j, j < 4 → ∃ v, w.cell? ⟨B, q + j, none⟩ = some v) :
    SpW ok w0 ((((w.setCell ⟨B, q, none⟩ (.int .i64 77)).setCell ⟨B, q + 1, none⟩ (.string ⟨#[]⟩)).setCell ⟨B, q + 2, none⟩ (.slice none 0 0)).setCell ⟨B, q + 3, none⟩ (.int .i64 0)) := by
  have oth : ∀ b o, (b ≠ B ∨ o ≠ q) → (b ≠ B ∨ o ≠ q + 1) → (b ≠ B ∨ o ≠ q + 2) → (b ≠ B ∨ o ≠ q + 3) → ((((w.setCell ⟨B, q, none⟩ (.int .i64 77)).setCell ⟨B, q + 1, none⟩ (.string ⟨#[]⟩)).setCell ⟨B, q + 2, none⟩ (.slice none 0 0)).setCell ⟨B, q + 3, none⟩ (.int .i64 0)).cell? ⟨b, o, none⟩ = w.cell? ⟨b, o, none⟩ := by
    intro b o h0 h1 h2 h3
    have ne : ∀ r, (b ≠ B ∨ o ≠ r) → (⟨B, r, none⟩ : Addr) ≠ ⟨b, o, none⟩ := fun r h e => by
      cases e
      rcases h with h | h <;> exact h rfl
    rw [World.cell?_setCell_other _ _ _ _ (ne _ h3), World.cell?_setCell_other _ _ _ _ (ne _ h2), World.cell?_setCell_other _ _ _ _ (ne _ h1), World.cell?_setCell_other _ _ _ _ (ne _ h0)]
  refine ⟨h.os, h.tape, h.output, by simpa [World.setCell] using h.size, fun b hb hn => ?_, fun b o hb hl ha => ?_, fun b r hb hl => ?_⟩
  · have hne : b ≠ B := fun e => hn (e ▸ hB)
    rw [Below.heap_setCell _ _ _ _ hne, Below.heap_setCell _ _ _ _ hne, Below.heap_setCell _ _ _ _ hne, Below.heap_setCell _ _ _ _ hne]
    exact h.others b hb hn
  · by_cases he : b = B ∧ o = q
    · obtain ⟨rfl, rfl⟩ := he
      obtain ⟨v0, e0⟩ := hc 0 (by decide)
      obtain ⟨v1, e1⟩ := hc 1 (by decide)
      obtain ⟨v2, e2⟩ := hc 2 (by decide)
      obtain ⟨v3, e3⟩ := hc 3 (by decide)
      have ne : ∀ r s, r ≠ s → (⟨b, r, none⟩ : Addr) ≠ ⟨b, s, none⟩ := fun r s h e => by cases e; exact h rfl
      rw [Nat.add_zero] at e0
      refine .inr ⟨?_, ?_, ?_, ?_⟩
      · rw [World.cell?_setCell_other _ _ _ _ (ne _ _ (by omega)), World.cell?_setCell_other _ _ _ _ (ne _ _ (by omega)), World.cell?_setCell_other _ _ _ _ (ne _ _ (by omega))]
        exact World.cell?_setCell_same _ _ _ e0
      · rw [World.cell?_setCell_other _ _ _ _ (ne _ _ (by omega)), World.cell?_setCell_other _ _ _ _ (ne _ _ (by omega))]
        exact World.cell?_setCell_same _ _ _ ((World.cell?_setCell_other _ _ _ _ (ne _ _ (by omega))).trans e1)
      · rw [World.cell?_setCell_other _ _ _ _ (ne _ _ (by omega))]
        exact World.cell?_setCell_same _ _ _ ((World.cell?_setCell_other _ _ _ _ (ne _ _ (by omega))).trans ((World.cell?_setCell_other _ _ _ _ (ne _ _ (by omega))).trans e2))
      · exact World.cell?_setCell_same _ _ _ ((World.cell?_setCell_other _ _ _ _ (ne _ _ (by omega))).trans ((World.cell?_setCell_other _ _ _ _ (ne _ _ (by omega))).trans ((World.cell?_setCell_other _ _ _ _ (ne _ _ (by omega))).trans e3)))
    · have k : ∀ j, j < 4 → ((((w.setCell ⟨B, q, none⟩ (.int .i64 77)).setCell ⟨B, q + 1, none⟩ (.string ⟨#[]⟩)).setCell ⟨B, q + 2, none⟩ (.slice none 0 0)).setCell ⟨B, q + 3, none⟩ (.int .i64 0)).cell? ⟨b, o + j, none⟩ = w.cell? ⟨b, o + j, none⟩ := by
        intro j hj
        by_cases hbB : b = B
        · have hoq : o ≠ q := fun e => he ⟨hbB, e⟩
          exact oth b (o + j) (.inr (by omega)) (.inr (by omega)) (.inr (by omega)) (.inr (by omega))
        · exact oth b (o + j) (.inl hbB) (.inl hbB) (.inl hbB) (.inl hbB)
      rcases h.node b o hb hl ha with h1 | ⟨h1, h2, h3, h4⟩
      · exact .inl fun j hj => (k j hj).trans (h1 j hj)
      · exact .inr ⟨(k 0 (by decide)).trans h1, (k 1 (by decide)).trans h2, (k 2 (by decide)).trans h3, (k 3 (by decide)).trans h4⟩
  · simp only [World.frozen?_setCell]
    exact h.fr b r hb hl

set_option maxHeartbeats 4000000 in
set_option maxRecDepth 100000 in
/-- Nodes are spoilt. -/
theorem spoil_any (ok : Nat → Prop) (w0 : World) (hok : ∀ b, ok b → b < w0.heap.size) : ∀ (N : Nat) (l : List Nd), szL l < N → szL l < 2 ^ 40 → ∀ (y : Option Addr) (c : Nat) (w : World), NdRow w0 ok l y → SpW ok w0 w →
    Calls Tryz.prog 29 #[.slice y l.length c] w fun e w' => e = .returned (.tuple #[]) ∧ SpW ok w0 w'
  | 0, _, h, _, _, _, _, _, _ => by omega
  | N + 1, l, hN, hw, y, c, w, hrow, hsp => by
    have ih := spoil_any ok w0 hok N
    have hl := len_szL l
    obtain ⟨n, hn⟩ : ∃ n, l.length = n := ⟨_, rfl⟩
    have HN := Lib.hid hn
    have HROW := Lib.hid hrow
    have HSZ := Lib.hid hN
    have HW := Lib.hid hw
    have HIH := Lib.hid ih
    have HOK := Lib.hid hok
    have HSP := Lib.hid hsp
    have hnn : n < 2 ^ 40 := by omega
    rw [hn]
    clear hN hw hrow hn ih hl hok hsp
    go_enter Tryz.func29, Tryz.ntmps29
    go_wp2_with fail
    go_loopg [5] n (fun gf v wx => ∃ i : Nat, v = .int .i64 i ∧ i + gf = n ∧ SpW ok w0 wx)
    case atStart => exact ⟨0, rfl, by omega, HSP.out⟩
    case round =>
      clear HSP
      obtain ⟨i, rfl, hi, hsp⟩ := hrel
      have HSP := Lib.hid hsp
      clear hsp
      by_cases hlt : i < n
      · obtain ⟨x, hx⟩ : ∃ x, l[i]? = some x := ⟨l[i]'(by have := HN.out; omega), List.getElem?_eq_getElem _⟩
        obtain ⟨B, o, rfl, hat⟩ := HROW.out.at_ hx
        obtain ⟨k, nm, kids, p⟩ := x
        have hks := kids_lt hx
        obtain ⟨hokb, x0, x1, x3, y', c', x2, hk⟩ := hat
        have hBl := HOK.out B hokb.ok
        have hcall : ∃ yy m cc, wr.cell? ⟨B, o + i * 4 + 2, none⟩ = some (.slice yy m cc) ∧ Calls Tryz.prog 29 #[.slice yy m cc] wr fun e w' => e = .returned (.tuple #[]) ∧ SpW ok w0 w' := by
          rcases HSP.out.node B (o + i * 4) hokb.ok hBl hokb.al with h1 | ⟨_, _, h3, _⟩
          · exact ⟨y', kids.length, c', (h1 2 (by decide)).trans x2, HIH.out kids (by have := HSZ.out; omega) (by have := HW.out; omega) y' c' wr hk HSP.out⟩
          · exact ⟨none, 0, 0, h3, HIH.out [] (by have := HSZ.out; have : szL ([] : List Nd) = 0 := rfl; omega) (by have : szL ([] : List Nd) = 0 := rfl; omega) none 0 wr trivial HSP.out⟩
        obtain ⟨yy, m, cc, hcell, hc⟩ := hcall
        have hlt' : (i : Int) < (n : Int) := by omega
        have Qi1 : IntKind.i64.wrap ((i : Int) + 1) = (i : Int) + 1 := IntWalk.i64_in _ (by omega)
        have HKB := Lib.hid hokb
        have HX : Hid (∀ w1, SpW ok w0 w1 → ∀ j, j < 4 → ∃ v, w1.cell? ⟨B, o + i * 4 + j, none⟩ = some v) := Lib.hid fun w1 h j hj => by
          rcases h.node B (o + i * 4) hokb.ok hBl hokb.al with h1 | ⟨h1, h2, h3, h4⟩
          · rw [h1 j hj]
            match j, hj with
            | 0, _ => exact ⟨_, x0⟩
            | 1, _ => exact ⟨_, x1⟩
            | 2, _ => exact ⟨_, x2⟩
            | 3, _ => exact ⟨_, x3⟩
          · match j, hj with
            | 0, _ => exact ⟨_, h1⟩
            | 1, _ => exact ⟨_, h2⟩
            | 2, _ => exact ⟨_, h3⟩
            | 3, _ => exact ⟨_, h4⟩
        have HBL := Lib.hid hBl
        clear hx hks hokb x0 x1 x2 x3 hk hBl
        go_wp2_with fail
        refine hc.mono ?_
        clear hc hcell
        rintro e w2 ⟨rfl, hsp2⟩
        obtain ⟨v0, e0⟩ := HX.out w2 hsp2 0 (by decide)
        obtain ⟨v1, e1⟩ := HX.out w2 hsp2 1 (by decide)
        obtain ⟨v2, e2⟩ := HX.out w2 hsp2 2 (by decide)
        obtain ⟨v3, e3⟩ := HX.out w2 hsp2 3 (by decide)
        have ef : ∀ q, w2.frozen? ⟨B, q, none⟩ = false := fun q => (hsp2.fr B q HKB.out.ok HBL.out).trans (HKB.out.fr q)
        rw [Nat.add_zero] at e0
        have HS3 := Lib.hid (hsp2.spoil HKB.out.ok HBL.out HKB.out.al (HX.out w2 hsp2))
        clear hsp2
        go_wp2_with fail
        go_roundg (gk - 1)
        case measure => omega
        case rel => exact ⟨i + 1, rfl, by omega, HS3.out⟩
      · have hlt' : ¬ (i : Int) < (n : Int) := by omega
        go_wp2_with fail
        go_end0
        exact ⟨rfl, HSP.out⟩

theorem fault_nil (w : World) : Calls Tryz.prog 28 #[.nilIface, .pointer none] w fun e w' => e = .returned (.bool true) ∧ w = w' := by
  go_enter Tryz.func28, Tryz.ntmps28
  go_wp2
  go_ret
  exact ⟨rfl, rfl⟩
set_option maxHeartbeats 4000000 in
set_option maxRecDepth 100000 in
theorem fault_hit (c p : Int) (T : ByteArray) (b1 b2 : Nat) (w : World) (hE : GlE w) (h1 : w.heap[b1]? = some (.cells #[.int .i64 c, .int .i64 p, .string T] 61 (0, 0))) (h2 : w.heap[b2]? = some (.cells #[.int .i64 c, .int .i64 p, .string T] 61 (0, 0))) :
    Calls Tryz.prog 28 #[.iface 23 (.pointer (some ⟨b1, 0, none⟩)), .pointer (some ⟨b2, 0, none⟩)] w fun e w' => e = .returned (.bool true) ∧ Below w.heap.size w w' := by
  have hb0 : Below w.heap.size w (w.alloc (.cells #[.pointer none] 23)) := (Below.refl _ _).alloc (Nat.le_refl _) _
  have cA := as_hit2 ⟨b1, 0, none⟩ ⟨w.heap.size, 0, none⟩ (.pointer none) (w.alloc (.cells #[.pointer none] 23)).drew (hE.below hb0.drew) (by simp) (by simp)
  have hl1 : b1 < w.heap.size := (Array.getElem?_eq_some_iff.1 h1).1
  have hl2 : b2 < w.heap.size := (Array.getElem?_eq_some_iff.1 h2).1
  have hk : ∀ w3 : World, (∀ k, k ≠ w.heap.size → k < (w.alloc (.cells #[.pointer none] 23)).drew.heap.size → w3.heap[k]? = (w.alloc (.cells #[.pointer none] 23)).drew.heap[k]?) →
      (w3.cell? ⟨b1, 0, none⟩ = some (.int .i64 c) ∧ w3.cell? ⟨b1, 1, none⟩ = some (.int .i64 p) ∧ w3.cell? ⟨b1, 2, none⟩ = some (.string T)) ∧
      (w3.cell? ⟨b2, 0, none⟩ = some (.int .i64 c) ∧ w3.cell? ⟨b2, 1, none⟩ = some (.int .i64 p) ∧ w3.cell? ⟨b2, 2, none⟩ = some (.string T)) := by
    intro w3 h
    have g1 := h b1 (by omega) (by simp; omega)
    have g2 := h b2 (by omega) (by simp; omega)
    rw [heap_drew, Below.heap_alloc _ _ _ hl1, h1] at g1
    rw [heap_drew, Below.heap_alloc _ _ _ hl2, h2] at g2
    refine ⟨⟨?_, ?_, ?_⟩, ⟨?_, ?_, ?_⟩⟩ <;> simp [World.cell?, g1, g2]
  clear h1 h2 hE
  go_enter Tryz.func28, Tryz.ntmps28
  go_wp2_with fail
  go_region_with (first | (go_at_call 61; (with_reducible refine cA.mono ?_); rintro e w3 ⟨rfl, ha1, ha2, ha3⟩; obtain ⟨⟨r0, r1, r2⟩, ⟨s0, s1, s2⟩⟩ := hk w3 ha3; clear ha3) | (go_at_call 62; refine (is_fault b1 c _ (by assumption)).mono ?_; rintro e w4 ⟨rfl, rfl⟩))
  all_goals go_wp2
  all_goals go_ret
  all_goals exact ⟨rfl, hb0.drew.trans (by assumption)⟩
end Go.Proofs.YtpbkeamjdolpgaaGreatDoor
