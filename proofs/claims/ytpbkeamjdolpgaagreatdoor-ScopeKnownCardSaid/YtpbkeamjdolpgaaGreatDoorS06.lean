/- What the Scope rows' statements ask: same, wakes. What the Scope rows' statements ask: wakes. Plain: what a walk finds hangs on the tree but for places; what codes there are. What the Scope rows' statements ask: code. The walk of ScopePrints. -/
import Derived.Test.YtpbkeamjdolpgaaGreatDoorS05
import Derived.Deep.QuietTactic
import Derived.Test.YtpbkeamjdolpgaaGreatDoorS04
import Derived.Test.YtpbkeamjdolpgaaGreatDoorB26
namespace Go.Proofs.YtpbkeamjdolpgaaGreatDoor
open Go.RowKit Go.Lib

/-- A row of names: where they lie. -/
theorem names_at {w : World} {B : Nat} {v : Value} {l : List (List UInt8)} (h : w.ownsRow B 9 1 v l.length (l.map encStr)) : ∃ a c, v = .slice a l.length c ∧ ∀ i x, l[i]? = some x → ∃ g, a = some ⟨g, 0, none⟩ ∧ w.cell? ⟨g, i, none⟩ = some (.string ⟨x.toArray⟩) := by
  rcases h.2 with ⟨h1, h2⟩ | ⟨g, cap, cur, h1, _⟩
  · have hl : l = [] := List.length_eq_zero_iff.1 h2
    subst hl
    exact ⟨none, 0, h1, fun i x hx => by simp at hx⟩
  · refine ⟨_, _, h1, fun i x hx => ⟨g, rfl, ?_⟩⟩
    have := h.cells (g := g) (by rw [h1]; rfl) i (encStr x) (by simp [hx])
    simpa [Addr.add_lit, encStr] using this
set_option maxHeartbeats 4000000 in
set_option maxRecDepth 100000 in
theorem ssame_any (l1 l2 : List (List UInt8)) (hl : l1.length < 2 ^ 40) (B1 B2 : Nat) (v1 v2 : Value) (w : World) (h1 : w.ownsRow B1 9 1 v1 l1.length (l1.map encStr)) (h2 : w.ownsRow B2 9 1 v2 l2.length (l2.map encStr)) :
    Calls Tryz.prog 41 #[v1, v2] w fun e w' => e = .returned (.bool (decide (l1 = l2))) ∧ Below w.heap.size w w' := by
  obtain ⟨a1, c1, rfl, k1⟩ := names_at h1
  obtain ⟨a2, c2, rfl, k2⟩ := names_at h2
  clear h1 h2
  obtain ⟨n1, hn1⟩ : ∃ n, l1.length = n := ⟨_, rfl⟩
  obtain ⟨n2, hn2⟩ : ∃ n, l2.length = n := ⟨_, rfl⟩
  rw [hn1, hn2]
  rw [hn1] at hl
  have HN1 := Lib.hid hn1
  have HN2 := Lib.hid hn2
  have HK1 := Lib.hid k1
  have HK2 := Lib.hid k2
  clear hn1 hn2 k1 k2
  by_cases hn : n1 = n2
  · subst hn
    have Q : ((n1 : Int) != (n1 : Int)) = false := by simp
    go_enter Tryz.func41, Tryz.ntmps41
    go_wp2_with fail
    go_loopg [5] n1 (fun g v wx => ∃ i : Nat, v = .int .i64 i ∧ i + g = n1 ∧ l1.take i = l2.take i ∧ Below w.heap.size w wx)
    case atStart => exact ⟨0, rfl, by omega, by simp, Below.refl _ _⟩
    case round =>
      obtain ⟨i, rfl, hi, htk, hb⟩ := hrel
      by_cases hlt : i < n1
      · obtain ⟨x, hx⟩ : ∃ x, l1[i]? = some x := ⟨l1[i]'(by have := HN1.out; omega), List.getElem?_eq_getElem _⟩
        obtain ⟨z, hz⟩ : ∃ x, l2[i]? = some x := ⟨l2[i]'(by have := HN2.out; omega), List.getElem?_eq_getElem _⟩
        obtain ⟨g1, rfl, q1⟩ := HK1.out i x hx
        obtain ⟨g2, rfl, q2⟩ := HK2.out i z hz
        have r1 := (hb.cell (p := ⟨g1, i, none⟩) (World.block_lt_of_cell? w _ q1)).trans q1
        have r2 := (hb.cell (p := ⟨g2, i, none⟩) (World.block_lt_of_cell? w _ q2)).trans q2
        have hlt' : (i : Int) < (n1 : Int) := by omega
        have Qi1 : IntKind.i64.wrap ((i : Int) + 1) = (i : Int) + 1 := IntWalk.i64_in _ (by omega)
        have HB := Lib.hid hb
        have HX := Lib.hid hx
        have HZ := Lib.hid hz
        have HTK := Lib.hid htk
        clear hb q1 q2 hx hz htk
        by_cases hxz : x = z
        · have Q2 : (!(x == z)) = false := by simp [hxz]
          have HT2 : Hid (l1.take (i + 1) = l2.take (i + 1)) := by
            show _ = _
            rw [List.take_add_one, List.take_add_one, HX.out, HZ.out, HTK.out, hxz]
          clear hxz
          go_wp2_with fail
          go_quiet (fail)
          go_wp2_with fail
          go_roundg (gk - 1)
          case measure => omega
          case rel => exact ⟨i + 1, rfl, by omega, HT2.out, bdn HB.out _⟩
        · have Q2 : (!(x == z)) = true := by simp [hxz]
          have HNE : Hid (decide (l1 = l2) = false) := by
            refine Lib.hid (decide_eq_false fun h => hxz ?_)
            subst h
            have h1 := HX.out.symm.trans HZ.out
            cases h1
            rfl
          clear hxz
          go_wp2_with fail
          go_quiet (fail)
          go_wp2_with fail
          go_ret
          rw [HNE.out]
          exact ⟨rfl, bdn HB.out _⟩
      · have hlt' : ¬ (i : Int) < (n1 : Int) := by omega
        have HEQ : Hid (decide (l1 = l2) = true) := Lib.hid (decide_eq_true (by
          have h1 : l1.take i = l1 := List.take_of_length_le (by have := HN1.out; omega)
          have h2 : l2.take i = l2 := List.take_of_length_le (by have := HN2.out; omega)
          rw [h1, h2] at htk
          exact htk))
        have HB := Lib.hid hb
        clear hb htk
        go_wp2_with fail
        go_ret
        rw [HEQ.out]
        exact ⟨rfl, HB.out⟩
  · have Q : ((n1 : Int) != (n2 : Int)) = true := by
      rw [bne_iff_ne]
      omega
    have HNE : Hid (decide (l1 = l2) = false) := Lib.hid (decide_eq_false fun h => hn (by rw [← HN1.out, ← HN2.out, h]))
    go_enter Tryz.func41, Tryz.ntmps41
    go_wp2_with fail
    go_ret
    rw [HNE.out]
    exact ⟨rfl, Below.refl _ _⟩
end Go.Proofs.YtpbkeamjdolpgaaGreatDoor
namespace Go.Proofs.YtpbkeamjdolpgaaGreatDoor
open Go.RowKit Go.Lib

def wkL : List Nd := [.mk 1 [97] [.mk 10 [98] [] 4] 0]
theorem wkL_check : checkR wkL = 0 := by kernel_rfl
theorem wkL_wrong : wrongE (evX wkL) = some (280, [98], 4) := by kernel_rfl
theorem wkL_free : sfreeR wkL = [[98]] := by kernel_rfl
theorem nilL_check : checkR [] = 0 := by kernel_rfl
theorem nilL_wrong : wrongE (evX []) = none := by kernel_rfl
set_option maxHeartbeats 4000000 in
set_option maxRecDepth 100000 in
theorem swakes_any (w : World) (hG : Gl w) (hE : GlE w) : Calls Tryz.prog 15 #[] w fun e w' => e = .returned (.bool true) ∧ Below w.heap.size w w' := by
  have hz := World.size_alloc w (.cells #[.int .i64 10, .string ⟨#[98]⟩, .slice none 0 0, .int .i64 4] 53)
  have hA1 : Below w.heap.size w (w.alloc (.cells #[.int .i64 10, .string ⟨#[98]⟩, .slice none 0 0, .int .i64 4] 53)) := (Below.refl _ _).alloc (Nat.le_refl _) _
  have hA : Below w.heap.size w ((w.alloc (.cells #[.int .i64 10, .string ⟨#[98]⟩, .slice none 0 0, .int .i64 4] 53)).alloc (.cells #[.int .i64 1, .string ⟨#[97]⟩, .slice (some ⟨w.heap.size, 0, none⟩) 1 1, .int .i64 0] 53)) := hA1.alloc (by rw [hz]; omega) _
  have r1 : NdRow (w.alloc (.cells #[.int .i64 10, .string ⟨#[98]⟩, .slice none 0 0, .int .i64 4] 53)) (fun b => w.heap.size ≤ b) [.mk 10 [98] [] 4] (some ⟨w.heap.size, 0, none⟩) :=
    NdRow.buildK (ok := fun b => w.heap.size ≤ b) (Nat.le_refl _) (NFlat.one (NdRow.cells (w := w) (k := 10) (n := [98]) (kids := []) (p := 4) (y := none) (c := ⟨0, Nat.le_refl _⟩) trivial))
  have r2 : NdRow ((w.alloc (.cells #[.int .i64 10, .string ⟨#[98]⟩, .slice none 0 0, .int .i64 4] 53)).alloc (.cells #[.int .i64 1, .string ⟨#[97]⟩, .slice (some ⟨w.heap.size, 0, none⟩) 1 1, .int .i64 0] 53)) (fun b => w.heap.size ≤ b) wkL (some ⟨(w.alloc (.cells #[.int .i64 10, .string ⟨#[98]⟩, .slice none 0 0, .int .i64 4] 53)).heap.size, 0, none⟩) :=
    NdRow.buildK (ok := fun b => w.heap.size ≤ b) (by rw [hz]; omega) (NFlat.one (NdRow.cells (k := 1) (n := [97]) (kids := [.mk 10 [98] [] 4]) (p := 0) (y := some ⟨w.heap.size, 0, none⟩) (c := ⟨1, Nat.le_refl _⟩) r1))
  have r3 := NdRow.mono (ok' := fun b => b < ((w.alloc (.cells #[.int .i64 10, .string ⟨#[98]⟩, .slice none 0 0, .int .i64 4] 53)).alloc (.cells #[.int .i64 1, .string ⟨#[97]⟩, .slice (some ⟨w.heap.size, 0, none⟩) 1 1, .int .i64 0] 53)).heap.size) (fun k _ h => h) (fun _ _ _ => rfl) _ _ r2
  rw [hz] at r3
  obtain ⟨W, hW⟩ : ∃ W, (w.alloc (.cells #[.int .i64 10, .string ⟨#[98]⟩, .slice none 0 0, .int .i64 4] 53)).alloc (.cells #[.int .i64 1, .string ⟨#[97]⟩, .slice (some ⟨w.heap.size, 0, none⟩) 1 1, .int .i64 0] 53) = W := ⟨_, rfl⟩
  have hW' := hW
  rw [hW] at hA r3
  have cC := scheck_any wkL (by show (4 : Nat) < _; decide) _ _ 1 W (hG.below hA) r3 (fun _ h => h)
  have HR := Lib.hid r3
  have HA := Lib.hid hA
  have HG := Lib.hid hG
  have HE := Lib.hid hE
  clear r1 r2 r3 hA1 hA hz hG hE hW'
  go_enter Tryz.func15, Tryz.ntmps15
  go_wp2_with fail
  clear hW
  generalize w.heap.size + 1 = g1 at *
  have hkk : checkR wkL = 0 := wkL_check
  refine cC.mono ?_
  clear cC
  rintro e w2 ⟨hb2, (⟨h0, -⟩ | ⟨-, h0, -⟩ | ⟨-, c, n, p, b, h1, h2, rfl, h3⟩)⟩
  · exact absurd hkk h0
  · rw [wkL_wrong] at h0
    cases h0
  rw [wkL_wrong] at h1
  cases h1
  have hbw2 := HA.out.trans (hb2.mono HA.out.size)
  have cF := sfree_any wkL (by show (4 : Nat) < _; decide) _ (some ⟨g1, 0, none⟩) 1 w2 (HG.out.below hbw2) (HR.out.below hb2) (fun b hb => Nat.lt_of_lt_of_le hb hb2.size)
  rw [wkL_free] at cF
  have HB2 := Lib.hid hbw2
  have H3 := Lib.hid h3
  clear hb2 hbw2 h2 h3 hkk
  go_wp2_with fail
  refine cF.mono ?_
  clear cF
  rintro e w3 ⟨v, rfl, hown, hb3⟩
  obtain ⟨a, c, rfl, hat⟩ := names_at hown
  obtain ⟨g, rfl, hc⟩ := hat 0 [98] rfl
  have hbw3 := HB2.out.trans (hb3.mono HB2.out.size)
  have h3' := (hb3.block b (Array.getElem?_eq_some_iff.1 H3.out).1).trans H3.out
  have hA4 : Below w3.heap.size w3 (w3.alloc (.cells #[.int .i64 280, .int .i64 4, .string ⟨#[98]⟩] 61)) := (Below.refl _ _).alloc (Nat.le_refl _) _
  have cT := stold_hit 280 4 ⟨#[98]⟩ b w3.heap.size (w3.alloc (.cells #[.int .i64 280, .int .i64 4, .string ⟨#[98]⟩] 61)) ((HE.out.below hbw3).below hA4) ((hA4.block b (Array.getElem?_eq_some_iff.1 h3').1).trans h3') (heap_alloc_new w3 _)
  have HB4 := Lib.hid (hbw3.trans (hA4.mono hbw3.size))
  have HC := Lib.hid ((hA4.cell (p := ⟨g, 0, none⟩) (World.block_lt_of_cell? w3 _ hc)).trans hc)
  clear hown hat hb3 hbw3 h3' hA4 hc H3 HB2
  go_wp2_with (first | (go_at_call 39; refine cT.mono ?_; rintro e w5 ⟨rfl, hb5⟩; have hc5 := (hb5.cell (p := ⟨g, 0, none⟩) (World.block_lt_of_cell? _ _ HC.out)).trans HC.out; have hbw5 := HB4.out.trans (hb5.mono HB4.out.size); have cN := scheck_any [] (by show (0 : Nat) < _; decide) (fun _ => False) none 0 w5 (HG.out.below hbw5) trivial (fun _ h => h.elim)) | (go_at_call 37; refine cN.mono ?_; rintro e w6 ⟨hb6, (⟨h0, -⟩ | ⟨-, -, rfl⟩ | ⟨-, c, n, p, b, h1, -⟩)⟩))
  go_ret
  exact ⟨rfl, hbw5.trans (hb6.mono hbw5.size)⟩
end Go.Proofs.YtpbkeamjdolpgaaGreatDoor
namespace Go.Proofs.YtpbkeamjdolpgaaGreatDoor

/-- But for its place. -/
def strip : Ev → Ev
  | .call n => .call n
  | .miss n _ => .miss n 0
  | .bad c n _ => .bad c n 0
theorem missE_strip : ∀ l : List Ev, missE (l.map strip) = missE l
  | [] => rfl
  | .call _ :: r => missE_strip r
  | .miss n _ :: r => congrArg (n :: ·) (missE_strip r)
  | .bad _ _ _ :: r => missE_strip r
theorem calledE_strip : ∀ l : List Ev, calledE (l.map strip) = calledE l
  | [] => rfl
  | .call n :: r => congrArg (n :: ·) (calledE_strip r)
  | .miss _ _ :: r => calledE_strip r
  | .bad _ _ _ :: r => calledE_strip r
theorem wrongE_strip : ∀ l : List Ev, wrongE (l.map strip) = (wrongE l).map fun x => (x.1, x.2.1, 0)
  | [] => rfl
  | .call _ :: r => wrongE_strip r
  | .miss _ _ :: _ => rfl
  | .bad _ _ _ :: _ => rfl
theorem sameN_iff {k k' : Int} {n n' : List UInt8} {l l' : List Nd} {p p' : Int} : sameN (.mk k n l p) (.mk k' n' l' p') = true ↔ k = k' ∧ n = n' ∧ sameL l l' = true := by
  rw [sameN]
  simp [and_assoc]
theorem sameL_iff {x y : Nd} {r s : List Nd} : sameL (x :: r) (y :: s) = true ↔ sameN x y = true ∧ sameL r s = true := by
  rw [sameL]
  simp
theorem sameL_nil {m : List Nd} (h : sameL [] m = true) : m = [] := by
  cases m with
  | nil => rfl
  | cons y s => simp [sameL] at h
theorem sameL_cons {x : Nd} {r m : List Nd} (h : sameL (x :: r) m = true) : ∃ y s, m = y :: s ∧ sameN x y = true ∧ sameL r s = true := by
  cases m with
  | nil => simp [sameL] at h
  | cons y s =>
    rw [sameL_iff] at h
    exact ⟨y, s, rfl, h.1, h.2⟩
theorem sameL_length : ∀ {l m : List Nd}, sameL l m = true → l.length = m.length
  | [], m, h => by rw [sameL_nil h]
  | x :: r, m, h => by
    obtain ⟨y, s, rfl, -, h2⟩ := sameL_cons h
    simp [sameL_length h2]
theorem argc_same {l m : List Nd} (h : sameL l m = true) : argc l = argc m := by
  cases l with
  | nil => rw [sameL_nil h]
  | cons x r =>
    obtain ⟨y, s, rfl, h1, -⟩ := sameL_cons h
    obtain ⟨k, n, a, p⟩ := x
    obtain ⟨k', n', a', p'⟩ := y
    exact sameL_length (sameN_iff.1 h1).2.2
theorem body_same {l m : List Nd} (h : sameL l m = true) : sameL (bodyOf l) (bodyOf m) = true := by
  cases l with
  | nil => rw [sameL_nil h]; rfl
  | cons x r =>
    obtain ⟨y, s, rfl, h1, -⟩ := sameL_cons h
    obtain ⟨k, n, a, p⟩ := x
    obtain ⟨k', n', a', p'⟩ := y
    exact (sameN_iff.1 h1).2.2
theorem tail_same {l m : List Nd} (h : sameL l m = true) : sameL l.tail m.tail = true := by
  cases l with
  | nil => rw [sameL_nil h]; rfl
  | cons x r =>
    obtain ⟨y, s, rfl, -, h2⟩ := sameL_cons h
    exact h2
theorem take1_same {l m : List Nd} (h : sameL l m = true) : sameL (l.take 1) (m.take 1) = true := by
  cases l with
  | nil => rw [sameL_nil h]; rfl
  | cons x r =>
    obtain ⟨y, s, rfl, h1, -⟩ := sameL_cons h
    show sameL [x] [y] = true
    rw [sameL_iff]
    exact ⟨h1, rfl⟩
theorem exprE_same {l m : List Nd} (h : sameL l m = true) (ρ : Env) (k : Int) (n : List UInt8) (p p' : Int) : (exprE ρ k n l p).map strip = (exprE ρ k n m p').map strip := by
  unfold exprE
  rw [argc_same h]
  split
  · split <;> rfl
  · split
    · rw [List.map_cons, List.map_cons]
      congr 1
      split
      · rfl
      · split <;> rfl
    · rfl
mutual
theorem evE_same : ∀ (x y : Nd), sameN x y = true → ∀ ρ : Env, (evE ρ x).map strip = (evE ρ y).map strip
  | .mk k n l p, .mk k' n' l' p', h, ρ => by
    obtain ⟨e1, e2, h'⟩ := sameN_iff.1 h
    subst e1
    subst e2
    clear h
    have h := h'
    rw [evE, evE, List.map_append, List.map_append, exprE_same h ρ k n p p', evEs_same l l' h ρ]
theorem evEs_same : ∀ (l m : List Nd), sameL l m = true → ∀ ρ : Env, (evEs ρ l).map strip = (evEs ρ m).map strip
  | [], m, h, ρ => by rw [sameL_nil h]
  | x :: r, [], h, ρ => by simp [sameL] at h
  | x :: r, y :: s, h, ρ => by
    obtain ⟨h1, h2⟩ := sameL_iff.1 h
    rw [evEs, evEs, List.map_append, List.map_append, evE_same x y h1 ρ, evEs_same r s h2 ρ]
end
theorem dupE_same (ρ : Env) (n : List UInt8) (p p' : Int) : (dupE ρ n p).map strip = (dupE ρ n p').map strip := by
  unfold dupE
  split <;> rfl
theorem defE_same (ρ : Env) (k : Nat) (n : List UInt8) (p p' : Int) : (defE ρ k n p).map strip = (defE ρ k n p').map strip := by
  unfold defE
  generalize ((if k = 1 then (fnB n).isSome else (mdB n).isSome) || (findE ρ k n true).isSome) = b
  cases b <;> rfl
theorem parE_same : ∀ (l m : List Nd), sameL l m = true → ∀ ρ : Env, (parE ρ l).map strip = (parE ρ m).map strip ∧ parV ρ l = parV ρ m
  | [], m, h, ρ => by rw [sameL_nil h]; exact ⟨rfl, rfl⟩
  | x :: r, [], h, ρ => by simp [sameL] at h
  | .mk k n l p :: r, .mk k' n' l' p' :: s, h, ρ => by
    obtain ⟨h1, h2⟩ := sameL_iff.1 h
    obtain ⟨rfl, rfl, -⟩ := sameN_iff.1 h1
    obtain ⟨e1, e2⟩ := parE_same r s h2 (some (0, n, 0) :: ρ)
    refine ⟨?_, e2⟩
    rw [parE, parE, List.map_append, List.map_append, dupE_same ρ n p p', e1]
theorem callE_same {l m : List Nd} (h : sameL l m = true) (ρ : Env) (d : Nat) (n : List UInt8) (p p' : Int) : (callE ρ d n l p).map strip = (callE ρ d n m p').map strip := by
  unfold callE
  rw [argc_same h, sameL_length h, List.map_cons, List.map_cons]
  congr 1
  split
  · rfl
  · split <;> rfl
theorem envS_same : ∀ (x y : Nd), sameN x y = true → ∀ ρ : Env, envS ρ x = envS ρ y
  | .mk k n l p, .mk k' n' l' p', h, ρ => by
    obtain ⟨e1, e2, h'⟩ := sameN_iff.1 h
    subst e1
    subst e2
    clear h
    have h := h'
    simp only [envS, argc_same h]
mutual
theorem evS_same : ∀ (x y : Nd), sameN x y = true → ∀ (ρ : Env) (d : Nat), (evS x ρ d).map strip = (evS y ρ d).map strip
  | .mk k n l p, .mk k' n' l' p', h, ρ, d => by
    obtain ⟨e1, e2, h'⟩ := sameN_iff.1 h
    subst e1
    subst e2
    clear h
    have h := h'
    have hT := fun ρ d => evT_same l l' h ρ d
    have hP := fun ρ => parE_same _ _ (body_same h) ρ
    rw [evS, evS, argc_same h]
    by_cases k1 : k = 1
    · rw [if_pos k1, if_pos k1, List.map_append, List.map_append, dupE_same ρ n p p', evEs_same l l' h ρ]
    rw [if_neg k1, if_neg k1]
    by_cases k2 : k = 2
    · simp only [if_pos k2, List.map_append]
      rw [defE_same ρ 2 n p p', (hP _).1, (hP _).2, hT]
    rw [if_neg k2, if_neg k2]
    by_cases k3 : k = 3
    · simp only [if_pos k3, List.map_append]
      rw [defE_same ρ 1 n p p', (hP _).1, (hP _).2, evEs_same _ _ (tail_same h)]
    rw [if_neg k3, if_neg k3]
    by_cases k5 : k = 5
    · simp only [if_pos k5, List.map_append]
      rw [hT, evEs_same _ _ (take1_same h)]
      congr 2
      split <;> rfl
    rw [if_neg k5, if_neg k5]
    by_cases k6 : k = 6
    · simp only [if_pos k6, List.map_append]
      rw [hT, evEs_same _ _ (take1_same h)]
    · simp only [if_neg k6, List.map_append]
      rw [hT, callE_same h ρ d n p p', evEs_same _ _ (body_same h)]
theorem evT_same : ∀ (l m : List Nd), sameL l m = true → ∀ (ρ : Env) (d : Nat), (evT l ρ d).map strip = (evT m ρ d).map strip
  | [], m, h, ρ, d => by rw [sameL_nil h]
  | x :: r, [], h, ρ, d => by simp [sameL] at h
  | x :: r, y :: s, h, ρ, d => by
    rw [evT, evT]
    exact evBs_same r s (sameL_iff.1 h).2 ρ d
theorem evBs_same : ∀ (l m : List Nd), sameL l m = true → ∀ (ρ : Env) (d : Nat), (evBs l ρ d).map strip = (evBs m ρ d).map strip
  | [], m, h, ρ, d => by rw [sameL_nil h]
  | x :: r, [], h, ρ, d => by simp [sameL] at h
  | x :: r, y :: s, h, ρ, d => by
    obtain ⟨h1, h2⟩ := sameL_iff.1 h
    rw [evBs, evBs, List.map_append, List.map_append, evB_same x y h1 ρ d, evBs_same r s h2 ρ d]
theorem evB_same : ∀ (x y : Nd), sameN x y = true → ∀ (ρ : Env) (d : Nat), (evB x ρ d).map strip = (evB y ρ d).map strip
  | .mk k n l p, .mk k' n' l' p', h, ρ, d => by
    rw [evB, evB]
    exact evSs_same l l' (sameN_iff.1 h).2.2 _ d
theorem evSs_same : ∀ (l m : List Nd), sameL l m = true → ∀ (ρ : Env) (d : Nat), (evSs l ρ d).map strip = (evSs m ρ d).map strip
  | [], m, h, ρ, d => by rw [sameL_nil h]
  | x :: r, [], h, ρ, d => by simp [sameL] at h
  | x :: r, y :: s, h, ρ, d => by
    obtain ⟨h1, h2⟩ := sameL_iff.1 h
    rw [evSs, evSs, List.map_append, List.map_append, evS_same x y h1 ρ d, envS_same x y h1 ρ, evSs_same r s h2 _ d]
end
/-- What Check tells, but for its place. -/
def codeR (l : List Nd) : Int × List UInt8 := match wrongE (evX l) with
  | none => (0, [])
  | some (c, n, _) => (c, n)
theorem codeR_same {l m : List Nd} (h : sameL l m = true) : codeR l = codeR m ∧ missE (evX l) = missE (evX m) ∧ calledE (evX l) = calledE (evX m) := by
  have he := evSs_same l m h [none] 0
  change (evX l).map strip = (evX m).map strip at he
  refine ⟨?_, by rw [← missE_strip, he, missE_strip], by rw [← calledE_strip, he, calledE_strip]⟩
  have hw := congrArg wrongE he
  rw [wrongE_strip, wrongE_strip] at hw
  unfold codeR
  cases h1 : wrongE (evX l) with
  | none =>
    rw [h1] at hw
    cases h2 : wrongE (evX m) with
    | none => rfl
    | some b => rw [h2] at hw; cases hw
  | some a =>
    rw [h1] at hw
    cases h2 : wrongE (evX m) with
    | none => rw [h2] at hw; cases hw
    | some b =>
      rw [h2] at hw
      obtain ⟨c, n, p⟩ := a
      obtain ⟨c', n', p'⟩ := b
      simp at hw
      obtain ⟨rfl, rfl⟩ := hw
      rfl
/-- A code that is told is one of two. -/
def Told2 : Ev → Prop
  | .bad c _ _ => c = 280 ∨ c = 281
  | _ => True
theorem dupE_two (ρ : Env) (n : List UInt8) (p : Int) : ∀ e ∈ dupE ρ n p, Told2 e := by
  unfold dupE
  split <;> simp [Told2]
theorem defE_two (ρ : Env) (k : Nat) (n : List UInt8) (p : Int) : ∀ e ∈ defE ρ k n p, Told2 e := by
  unfold defE
  generalize ((if k = 1 then (fnB n).isSome else (mdB n).isSome) || (findE ρ k n true).isSome) = b
  cases b <;> simp [Told2]
theorem exprE_two (ρ : Env) (k : Int) (n : List UInt8) (kids : List Nd) (p : Int) : ∀ e ∈ exprE ρ k n kids p, Told2 e := by
  unfold exprE
  split
  · split <;> simp [Told2]
  · split
    · split
      · simp [Told2]
      · split <;> simp [Told2]
    · simp
theorem callE_two (ρ : Env) (d : Nat) (n : List UInt8) (kids : List Nd) (p : Int) : ∀ e ∈ callE ρ d n kids p, Told2 e := by
  unfold callE
  split
  · simp [Told2]
  · split <;> simp [Told2]
theorem parE_two : ∀ (l : List Nd) (ρ : Env), ∀ e ∈ parE ρ l, Told2 e
  | [], _, e, h => by simp [parE] at h
  | .mk _ n _ p :: r, ρ, e, h => by
    rw [parE, List.mem_append] at h
    rcases h with h | h
    · exact dupE_two ρ n p e h
    · exact parE_two r _ e h
mutual
theorem evE_two (ρ : Env) : ∀ x : Nd, ∀ e ∈ evE ρ x, Told2 e
  | .mk k n kids p, e, h => by
    rw [evE, List.mem_append] at h
    rcases h with h | h
    · exact exprE_two ρ k n kids p e h
    · exact evEs_two ρ kids e h
theorem evEs_two (ρ : Env) : ∀ l : List Nd, ∀ e ∈ evEs ρ l, Told2 e
  | [], e, h => by simp [evEs] at h
  | x :: r, e, h => by
    rw [evEs, List.mem_append] at h
    rcases h with h | h
    · exact evE_two ρ x e h
    · exact evEs_two ρ r e h
end
mutual
theorem evS_two : ∀ (x : Nd) (ρ : Env) (d : Nat), ∀ e ∈ evS x ρ d, Told2 e
  | .mk k n kids p, ρ, d, e, h => by
    have hT := fun ρ d => evT_two kids ρ d e
    rw [evS] at h
    split at h
    · rw [List.mem_append] at h
      rcases h with h | h
      · exact dupE_two _ _ _ _ h
      · exact evEs_two _ _ _ h
    split at h
    · rw [List.mem_append, List.mem_append] at h
      rcases h with (h | h) | h
      · exact defE_two _ _ _ _ _ h
      · exact parE_two _ _ _ h
      · exact hT _ _ h
    split at h
    · rw [List.mem_append, List.mem_append] at h
      rcases h with (h | h) | h
      · exact defE_two _ _ _ _ _ h
      · exact parE_two _ _ _ h
      · exact evEs_two _ _ _ h
    split at h
    · rw [List.mem_append, List.mem_append] at h
      rcases h with (h | h) | h
      · split at h
        · simp at h
          subst h
          exact .inl rfl
        · cases h
      · exact evEs_two _ _ _ h
      · exact hT _ _ h
    split at h
    · rw [List.mem_append] at h
      rcases h with h | h
      · exact evEs_two _ _ _ h
      · exact hT _ _ h
    · rw [List.mem_append, List.mem_append] at h
      rcases h with (h | h) | h
      · exact callE_two _ _ _ _ _ _ h
      · exact evEs_two _ _ _ h
      · exact hT _ _ h
theorem evT_two : ∀ (l : List Nd) (ρ : Env) (d : Nat), ∀ e ∈ evT l ρ d, Told2 e
  | [], _, _, e, h => by simp [evT] at h
  | _ :: r, ρ, d, e, h => by
    rw [evT] at h
    exact evBs_two r ρ d e h
theorem evBs_two : ∀ (l : List Nd) (ρ : Env) (d : Nat), ∀ e ∈ evBs l ρ d, Told2 e
  | [], _, _, e, h => by simp [evBs] at h
  | x :: r, ρ, d, e, h => by
    rw [evBs, List.mem_append] at h
    rcases h with h | h
    · exact evB_two x ρ d e h
    · exact evBs_two r ρ d e h
theorem evB_two : ∀ (x : Nd) (ρ : Env) (d : Nat), ∀ e ∈ evB x ρ d, Told2 e
  | .mk _ _ l _, ρ, d, e, h => by
    rw [evB] at h
    exact evSs_two l _ d e h
theorem evSs_two : ∀ (l : List Nd) (ρ : Env) (d : Nat), ∀ e ∈ evSs l ρ d, Told2 e
  | [], _, _, e, h => by simp [evSs] at h
  | x :: r, ρ, d, e, h => by
    rw [evSs, List.mem_append] at h
    rcases h with h | h
    · exact evS_two x ρ d e h
    · exact evSs_two r _ d e h
end
theorem wrongE_two : ∀ {l : List Ev} {c : Int} {n : List UInt8} {p : Int}, (∀ e ∈ l, Told2 e) → wrongE l = some (c, n, p) → c = 280 ∨ c = 281
  | .call _ :: r, c, n, p, h, hw => wrongE_two (l := r) (fun e he => h e (List.mem_cons_of_mem _ he)) hw
  | .miss _ _ :: _, c, n, p, _, hw => by
    cases hw
    exact .inl rfl
  | .bad _ _ _ :: _, c, n, p, h, hw => by
    cases hw
    exact h _ (List.mem_cons_self ..)
  | [], _, _, _, _, hw => by cases hw
theorem wrongE_none : ∀ {l : List Ev}, wrongE l = none → missE l = []
  | [], _ => rfl
  | .call _ :: r, h => wrongE_none (l := r) h
theorem wrongX_two {l : List Nd} {c : Int} {n : List UInt8} {p : Int} (h : wrongE (evX l) = some (c, n, p)) : c = 280 ∨ c = 281 := wrongE_two (evSs_two l [none] 0) h
/-- None is missing, just where nothing is wrong. -/
theorem codeR_free {l : List Nd} (h : (codeR l).1 = 0) : missE (evX l) = [] := by
  unfold codeR at h
  cases hw : wrongE (evX l) with
  | none => exact wrongE_none hw
  | some a =>
    obtain ⟨c, n, p⟩ := a
    rw [hw] at h
    have := wrongX_two hw
    dsimp only at h
    omega
end Go.Proofs.YtpbkeamjdolpgaaGreatDoor
namespace Go.Proofs.YtpbkeamjdolpgaaGreatDoor
open Go.RowKit Go.Lib Go.Extern.Stop Go.Stop Go.Extern

set_option maxHeartbeats 4000000 in
set_option maxRecDepth 100000 in
theorem code_nil (w : World) : Calls Tryz.prog 36 #[.nilIface] w fun e w' => e = .returned (.tuple #[.int .i64 0, .string ⟨#[]⟩]) ∧ Below w.heap.size w w' := by
  have hA : Below w.heap.size w (w.alloc (.cells #[.pointer none] 23)) := (Below.refl _ _).alloc (Nat.le_refl _) _
  have hz := World.size_alloc w (.cells #[.pointer none] 23)
  have hA2 : Below w.heap.size w ((w.alloc (.cells #[.pointer none] 23)).alloc (.cells #[.int .i64 0] 30)) := hA.alloc (by rw [hz]; omega) _
  have hc := heap_alloc_new (w.alloc (.cells #[.pointer none] 23)) (.cells #[.int .i64 0] 30)
  rw [hz] at hc
  have e1 := cell_of_one hc
  have HA := Lib.hid hA2
  clear hA hA2 hz hc
  go_enter Tryz.func36, Tryz.ntmps36
  go_wp2_with (first | (go_at_call 61; refine (as_nil _ _).mono ?_; rintro e w3 ⟨rfl, rfl⟩))
  go_ret2
  exact ⟨rfl, HA.out⟩
set_option maxHeartbeats 4000000 in
set_option maxRecDepth 100000 in
theorem code_hit (c p : Int) (T : ByteArray) (b : Nat) (w : World) (hE : GlE w) (h1 : w.heap[b]? = some (.cells #[.int .i64 c, .int .i64 p, .string T] 61 (0, 0))) :
    Calls Tryz.prog 36 #[.iface 23 (.pointer (some ⟨b, 0, none⟩))] w fun e w' => e = .returned (.tuple #[.int .i64 c, .string T]) ∧ Below w.heap.size w w' := by
  have hA : Below w.heap.size w (w.alloc (.cells #[.pointer none] 23)) := (Below.refl _ _).alloc (Nat.le_refl _) _
  have cA := as_hit2 ⟨b, 0, none⟩ ⟨w.heap.size, 0, none⟩ (.pointer none) (w.alloc (.cells #[.pointer none] 23)) (hE.below hA) (by simp) (by simp)
  have hl1 : b < w.heap.size := (Array.getElem?_eq_some_iff.1 h1).1
  have HK : Hid (∀ w3 : World, (∀ k, k ≠ w.heap.size → k < (w.alloc (.cells #[.pointer none] 23)).heap.size → w3.heap[k]? = (w.alloc (.cells #[.pointer none] 23)).heap[k]?) →
      (w3.cell? ⟨b, 0, none⟩ = some (.int .i64 c) ∧ w3.cell? ⟨b, 2, none⟩ = some (.string T))) := by
    refine Lib.hid fun w3 h => ?_
    have g1 := h b (by omega) (by simp; omega)
    rw [Below.heap_alloc _ _ _ hl1, h1] at g1
    exact ⟨cell_of_row w3 b 0 _ _ _ g1, cell_of_row w3 b 2 _ _ _ g1⟩
  have HA := Lib.hid hA
  clear h1 hE hA hl1
  go_enter Tryz.func36, Tryz.ntmps36
  go_wp2_with fail
  refine cA.mono ?_
  clear cA
  rintro e w3 ⟨rfl, ha1, ha2, ha3⟩
  obtain ⟨r0, r2⟩ := HK.out w3 ha3
  have HB := Lib.hid (HA.out.trans ha1)
  clear ha1 ha3 HK HA
  go_wp2_with fail
  go_quiet (fail)
  go_wp2_with fail
  go_ret2
  exact ⟨rfl, bdn HB.out _⟩
/-- What Check has told is turned into its code. -/
theorem code_any {l : List Nd} {w w' : World} {e : Ending} (h : ScEnd l w e w') (hc : checkR l = 0) : ∃ v, e = .returned v ∧ ∀ W, Below w'.heap.size w' W → GlE W →
    Calls Tryz.prog 36 #[v] W fun e2 W2 => e2 = .returned (.tuple #[.int .i64 (codeR l).1, .string ⟨(codeR l).2.toArray⟩]) ∧ Below W.heap.size W W2 := by
  obtain ⟨-, (⟨h0, -⟩ | ⟨-, h0, rfl⟩ | ⟨-, c, n, p, b, h1, h2, rfl, h3⟩)⟩ := h
  · exact absurd hc h0
  · refine ⟨_, rfl, fun W _ _ => ?_⟩
    have : codeR l = (0, []) := by unfold codeR; rw [h0]
    rw [this]
    exact code_nil W
  · refine ⟨_, rfl, fun W hb hE => ?_⟩
    have : codeR l = (c, n) := by unfold codeR; rw [h1]
    rw [this]
    exact code_hit c p ⟨n.toArray⟩ b W hE ((hb.block b (Array.getElem?_eq_some_iff.1 h3).1).trans h3)
end Go.Proofs.YtpbkeamjdolpgaaGreatDoor
namespace Go.Proofs.YtpbkeamjdolpgaaGreatDoor
open Go.RowKit Go.Lib

theorem putS_len : ∀ (l : List (List UInt8)) (s : List UInt8), (putS l s).length ≤ l.length + 1
  | [], s => by simp [putS]
  | x :: r, s => by
    rw [putS]
    have := putS_len r s
    split
    · simp only [List.length_cons]
      omega
    · split <;> simp
theorem foldS_len : ∀ (l a : List (List UInt8)), (l.foldl putS a).length ≤ l.length + a.length
  | [], a => by simp
  | s :: r, a => by
    rw [List.foldl_cons, List.length_cons]
    have := foldS_len r (putS a s)
    have := putS_len a s
    omega
theorem names_len (l : List Nd) (h : wtL l < 2 ^ 38) : (sfreeR l).length < 2 ^ 40 ∧ (scallR l).length < 2 ^ 40 := by
  have h1 := evSs_len l [none] 0
  have h2 : (missE (evX l)).length ≤ (evSs l [none] 0).length := missE_len (evX l)
  have h3 : (calledE (evX l)).length ≤ (evSs l [none] 0).length := calledE_len (evX l)
  have h4 := foldS_len (missE (evX l)) []
  have h5 := foldS_len (calledE (evX l)) []
  simp only [List.length_nil] at h4 h5
  unfold sfreeR scallR risL
  constructor <;> (split <;> (try simp only [List.length_nil]) <;> omega)
set_option maxHeartbeats 4000000 in
set_option maxRecDepth 100000 in
theorem scopePrints_any (s : ByteArray) (_hs : s.size < 2 ^ 62) (w : World) (hGE : Gl w ∧ GlE w) :
    Calls Tryz.prog 13 #[.string s] w fun e w' => e = .returned (.bool true) ∧ Below w.heap.size w w' := by
  obtain ⟨hG, hE⟩ := hGE
  have c0 := parse_any s w hG
  obtain ⟨P, hP⟩ : ∃ P, parseR s.data.toList = P := ⟨_, rfl⟩
  rw [hP] at c0
  have HP := Lib.hid hP
  have HG := Lib.hid hG
  have HE := Lib.hid hE
  clear hP hG hE
  go_enter Tryz.func13, Tryz.ntmps13
  go_wp2_with fail
  refine c0.mono ?_
  clear c0
  cases P with
  | error f =>
    rintro e w1 ⟨hb1, b, hb, rfl, hf⟩
    have cw := swakes_any w1 (HG.out.below hb1) (HE.out.below hb1)
    have HB1 := Lib.hid hb1
    clear hb1 hb hf
    go_wp2_with fail
    refine cw.mono ?_
    clear cw
    rintro e w2 ⟨rfl, hb2⟩
    have HB2 := Lib.hid (HB1.out.trans (hb2.mono HB1.out.size))
    clear hb2
    go_wp2_with fail
    go_ret
    exact ⟨rfl, HB2.out⟩
  | ok l =>
    rintro e w1 ⟨hb1, y, c, rfl, hrow, -⟩
    obtain ⟨k1, k2, k3⟩ := again_law HP.out
    have HB1 := Lib.hid hb1
    have HROW := Lib.hid hrow
    have HW := Lib.hid k2
    have HC := Lib.hid k1
    have HK := Lib.hid k3
    have c1 := print_any _ l (by omega) (fun h => by have := text_len l h; omega) y c w1 (HG.out.below hb1) hrow
    obtain ⟨n, hn⟩ : ∃ n, l.length = n := ⟨_, rfl⟩
    have HN := Lib.hid hn
    rw [hn] at c1 ⊢
    clear hb1 k1 k2 k3 hn hrow
    rcases HK.out with hp | ⟨T, m, hp, hm, hsm, -⟩
    · rw [hp] at c1
      clear hp HK
      go_wp2_with fail
      refine c1.mono ?_
      clear c1
      rintro e w2 ⟨hb2, rfl⟩
      have HB2 := Lib.hid (HB1.out.trans (hb2.mono HB1.out.size))
      have cw := swakes_any w2 (HG.out.below HB2.out) (HE.out.below HB2.out)
      clear hb2
      go_wp2_with fail
      refine cw.mono ?_
      clear cw
      rintro e w3 ⟨rfl, hb3⟩
      have HB3 := Lib.hid (HB2.out.trans (hb3.mono HB2.out.size))
      clear hb3
      go_wp2_with fail
      go_ret
      exact ⟨rfl, HB3.out⟩
    · rw [hp] at c1
      have HM := Lib.hid hm
      have HSM := Lib.hid hsm
      clear hp hm hsm HK
      go_wp2_with fail
      refine c1.mono ?_
      clear c1
      rintro e w2 ⟨hb2, rfl⟩
      have HB2 := Lib.hid (HB1.out.trans (hb2.mono HB1.out.size))
      have HROW2 := Lib.hid (HROW.out.below hb2)
      have c2 := parse_any ⟨T.toArray⟩ w2 (HG.out.below HB2.out)
      rw [show (⟨T.toArray⟩ : ByteArray).data.toList = T by simp, HM.out] at c2
      clear hb2 HROW
      go_wp2_with fail
      refine c2.mono ?_
      clear c2
      rintro e w3 ⟨hb3, y2, c2, rfl, hrow2, -⟩
      have HB3 := Lib.hid (HB2.out.trans (hb3.mono HB2.out.size))
      have HROW3 := Lib.hid ((HROW2.out.below hb3).wide (ok' := fun k => k < w3.heap.size) fun k _ hk => hk)
      have HRM3 := Lib.hid (hrow2.wide (ok' := fun k => k < w3.heap.size) fun k _ hk => hk)
      obtain ⟨j1, j2, -⟩ := again_law HM.out
      have HCM := Lib.hid j1
      have HWM := Lib.hid j2
      have c3 := scheck_any l (by have := HW.out; omega) _ y c w3 (HG.out.below HB3.out) HROW3.out (fun _ h => h)
      obtain ⟨n2, hn2⟩ : ∃ n, m.length = n := ⟨_, rfl⟩
      have HN2 := Lib.hid hn2
      rw [hn2]
      rw [HN.out] at c3
      clear hb3 hrow2 j1 j2 hn2 HROW2
      go_wp2_with fail
      refine c3.mono ?_
      clear c3
      intro e w4 hend
      obtain ⟨v4, rfl, hcode⟩ := code_any hend HC.out
      have HB4 := Lib.hid (HB3.out.trans (hend.1.mono HB3.out.size))
      have HROW4 := Lib.hid ((HROW3.out.below hend.1).wide (ok' := fun k => k < w4.heap.size) fun k hk _ => Nat.lt_of_lt_of_le hk hend.1.size)
      have HRM4 := Lib.hid ((HRM3.out.below hend.1).wide (ok' := fun k => k < w4.heap.size) fun k hk _ => Nat.lt_of_lt_of_le hk hend.1.size)
      have c4 := hcode w4 (Below.refl _ _) (HE.out.below HB4.out)
      clear hend hcode HROW3 HRM3
      go_wp2_with fail
      refine c4.mono ?_
      clear c4
      rintro e w5 ⟨rfl, hb5⟩
      obtain ⟨A, hA⟩ : ∃ A, (codeR l).1 = A := ⟨_, rfl⟩
      obtain ⟨X, hX⟩ : ∃ X, (codeR l).2 = X := ⟨_, rfl⟩
      have HA := Lib.hid hA
      have HX := Lib.hid hX
      rw [hA, hX]
      have HB5 := Lib.hid (HB4.out.trans (hb5.mono HB4.out.size))
      have HROW5 := Lib.hid ((HROW4.out.below hb5).wide (ok' := fun k => k < w5.heap.size) fun k hk _ => Nat.lt_of_lt_of_le hk hb5.size)
      have HRM5 := Lib.hid ((HRM4.out.below hb5).wide (ok' := fun k => k < w5.heap.size) fun k hk _ => Nat.lt_of_lt_of_le hk hb5.size)
      have c5 := scheck_any m (by have := HWM.out; omega) _ y2 c2 w5 (HG.out.below HB5.out) HRM5.out (fun _ h => h)
      rw [HN2.out] at c5
      clear hb5 hA hX HROW4 HRM4
      go_wp2_with fail
      refine c5.mono ?_
      clear c5
      intro e w6 hend
      obtain ⟨v6, rfl, hcode⟩ := code_any hend HCM.out
      have HB6 := Lib.hid (HB5.out.trans (hend.1.mono HB5.out.size))
      have HROW6 := Lib.hid ((HROW5.out.below hend.1).wide (ok' := fun k => k < w6.heap.size) fun k hk _ => Nat.lt_of_lt_of_le hk hend.1.size)
      have HRM6 := Lib.hid ((HRM5.out.below hend.1).wide (ok' := fun k => k < w6.heap.size) fun k hk _ => Nat.lt_of_lt_of_le hk hend.1.size)
      have c6 := hcode w6 (Below.refl _ _) (HE.out.below HB6.out)
      rw [← (codeR_same HSM.out).1, HA.out, HX.out] at c6
      clear hend hcode HROW5 HRM5
      go_wp2_with fail
      refine c6.mono ?_
      clear c6
      rintro e w7 ⟨rfl, hb7⟩
      have HB7 := Lib.hid (HB6.out.trans (hb7.mono HB6.out.size))
      have HROW7 := Lib.hid ((HROW6.out.below hb7).wide (ok' := fun k => k < w7.heap.size) fun k hk _ => Nat.lt_of_lt_of_le hk hb7.size)
      have HRM7 := Lib.hid ((HRM6.out.below hb7).wide (ok' := fun k => k < w7.heap.size) fun k hk _ => Nat.lt_of_lt_of_le hk hb7.size)
      have c7 := sfree_any l (by have := HW.out; omega) _ y c w7 (HG.out.below HB7.out) HROW7.out (fun _ h => h)
      rw [HN.out] at c7
      clear hb7 HROW6 HRM6
      go_wp2_with fail
      refine c7.mono ?_
      clear c7
      rintro e w8 ⟨vf, rfl, hown, hb8⟩
      have HB8 := Lib.hid (HB7.out.trans (hb8.mono HB7.out.size))
      have HROW8 := Lib.hid ((HROW7.out.below hb8).wide (ok' := fun k => k < w8.heap.size) fun k hk _ => Nat.lt_of_lt_of_le hk hb8.size)
      have HRM8 := Lib.hid ((HRM7.out.below hb8).wide (ok' := fun k => k < w8.heap.size) fun k hk _ => Nat.lt_of_lt_of_le hk hb8.size)
      obtain ⟨af, cf, rfl, -⟩ := names_at hown
      have HOWN := Lib.hid hown
      obtain ⟨nf, hnf⟩ : ∃ nf, (sfreeR l).length = nf := ⟨_, rfl⟩
      rw [hnf]
      have HNF := Lib.hid hnf
      have HSF : Hid (sfreeR m = sfreeR l ∧ scallR m = scallR l) := by
        refine Lib.hid ?_
        unfold sfreeR scallR
        rw [HC.out, HCM.out, (codeR_same HSM.out).2.1, (codeR_same HSM.out).2.2]
        exact ⟨rfl, rfl⟩
      have HLE : Hid ((sfreeR l).length < 2 ^ 40 ∧ (scallR l).length < 2 ^ 40) := Lib.hid (names_len l (by have := HW.out; omega))
      have hAF : A = 0 → nf = 0 := fun h0 => by
        have h1 := codeR_free (HA.out.trans h0)
        rw [← HNF.out]
        unfold sfreeR
        rw [h1]
        split <;> rfl
      have c8 := sfree_any m (by have := HWM.out; omega) _ y2 c2 w8 (HG.out.below HB8.out) HRM8.out (fun _ h => h)
      rw [HN2.out, HSF.out.1] at c8
      obtain ⟨E, hE⟩ : ∃ E, ((nf : Int) == 0) = E := ⟨_, rfl⟩
      obtain ⟨D, hD⟩ : ∃ D, (A != 0) = D := ⟨_, rfl⟩
      have hED : D = false → E = true := fun h => by
        rw [h] at hD
        have h0 : A = 0 := by simpa using hD
        rw [← hE, hAF h0]
        rfl
      clear hb8 hown hnf HROW7 HRM7 hAF
      cases D
      · have hE1 := hED rfl
        subst hE1
        clear hED
        go_wp2_with fail
        refine c8.mono ?_
        clear c8
        rintro e w9 ⟨v9, rfl, hown9, hb9⟩
        have HB9 := Lib.hid (HB8.out.trans (hb9.mono HB8.out.size))
        have HROW9 := Lib.hid ((HROW8.out.below hb9).wide (ok' := fun k => k < w9.heap.size) fun k hk _ => Nat.lt_of_lt_of_le hk hb9.size)
        have HRM9 := Lib.hid ((HRM8.out.below hb9).wide (ok' := fun k => k < w9.heap.size) fun k hk _ => Nat.lt_of_lt_of_le hk hb9.size)
        have cs := ssame_any (sfreeR l) (sfreeR l) HLE.out.1 w7.heap.size w8.heap.size (.slice af (sfreeR l).length cf) v9 w9 (own_below HOWN.out hb9) hown9
        rw [decide_eq_true rfl, HNF.out] at cs
        clear hb9 hown9 HROW8 HRM8 HOWN
        go_wp2_with fail
        refine cs.mono ?_
        clear cs
        rintro e w10 ⟨rfl, hb10⟩
        have HB10 := Lib.hid (HB9.out.trans (hb10.mono HB9.out.size))
        have HROW10 := Lib.hid ((HROW9.out.below hb10).wide (ok' := fun k => k < w10.heap.size) fun k hk _ => Nat.lt_of_lt_of_le hk hb10.size)
        have HRM10 := Lib.hid ((HRM9.out.below hb10).wide (ok' := fun k => k < w10.heap.size) fun k hk _ => Nat.lt_of_lt_of_le hk hb10.size)
        have c10 := scall_any l (by have := HW.out; omega) _ y c w10 (HG.out.below HB10.out) HROW10.out (fun _ h => h)
        rw [HN.out] at c10
        clear hb10 HROW9 HRM9
        go_wp2_with fail
        refine c10.mono ?_
        clear c10
        rintro e w11 ⟨v11, rfl, hown11, hb11⟩
        have HB11 := Lib.hid (HB10.out.trans (hb11.mono HB10.out.size))
        have HRM11 := Lib.hid ((HRM10.out.below hb11).wide (ok' := fun k => k < w11.heap.size) fun k hk _ => Nat.lt_of_lt_of_le hk hb11.size)
        have c11 := scall_any m (by have := HWM.out; omega) _ y2 c2 w11 (HG.out.below HB11.out) HRM11.out (fun _ h => h)
        rw [HN2.out, HSF.out.2] at c11
        have HOWN11 := Lib.hid hown11
        clear hb11 hown11 HROW10 HRM10
        go_wp2_with fail
        refine c11.mono ?_
        clear c11
        rintro e w12 ⟨v12, rfl, hown12, hb12⟩
        have HB12 := Lib.hid (HB11.out.trans (hb12.mono HB11.out.size))
        have cs2 := ssame_any (scallR l) (scallR l) HLE.out.2 _ _ v11 v12 w12 (own_below HOWN11.out hb12) hown12
        rw [decide_eq_true rfl] at cs2
        clear hb12 hown12 HRM11 HOWN11
        go_wp2_with fail
        refine cs2.mono ?_
        clear cs2
        rintro e w13 ⟨rfl, hb13⟩
        have HB13 := Lib.hid (HB12.out.trans (hb13.mono HB12.out.size))
        have cw := swakes_any w13 (HG.out.below HB13.out) (HE.out.below HB13.out)
        clear hb13
        go_wp2_with fail
        refine cw.mono ?_
        clear cw
        rintro e w14 ⟨rfl, hb14⟩
        have HB14 := Lib.hid (HB13.out.trans (hb14.mono HB13.out.size))
        clear hb14
        go_wp2_with fail
        go_ret
        exact ⟨rfl, HB14.out⟩
      · clear hED
        cases E
        · go_wp2_with fail
          refine c8.mono ?_
          clear c8
          rintro e w9 ⟨v9, rfl, hown9, hb9⟩
          have HB9 := Lib.hid (HB8.out.trans (hb9.mono HB8.out.size))
          have HROW9 := Lib.hid ((HROW8.out.below hb9).wide (ok' := fun k => k < w9.heap.size) fun k hk _ => Nat.lt_of_lt_of_le hk hb9.size)
          have HRM9 := Lib.hid ((HRM8.out.below hb9).wide (ok' := fun k => k < w9.heap.size) fun k hk _ => Nat.lt_of_lt_of_le hk hb9.size)
          have cs := ssame_any (sfreeR l) (sfreeR l) HLE.out.1 w7.heap.size w8.heap.size (.slice af (sfreeR l).length cf) v9 w9 (own_below HOWN.out hb9) hown9
          rw [decide_eq_true rfl, HNF.out] at cs
          clear hb9 hown9 HROW8 HRM8 HOWN
          go_wp2_with fail
          refine cs.mono ?_
          clear cs
          rintro e w10 ⟨rfl, hb10⟩
          have HB10 := Lib.hid (HB9.out.trans (hb10.mono HB9.out.size))
          have HROW10 := Lib.hid ((HROW9.out.below hb10).wide (ok' := fun k => k < w10.heap.size) fun k hk _ => Nat.lt_of_lt_of_le hk hb10.size)
          have HRM10 := Lib.hid ((HRM9.out.below hb10).wide (ok' := fun k => k < w10.heap.size) fun k hk _ => Nat.lt_of_lt_of_le hk hb10.size)
          have c10 := scall_any l (by have := HW.out; omega) _ y c w10 (HG.out.below HB10.out) HROW10.out (fun _ h => h)
          rw [HN.out] at c10
          clear hb10 HROW9 HRM9
          go_wp2_with fail
          refine c10.mono ?_
          clear c10
          rintro e w11 ⟨v11, rfl, hown11, hb11⟩
          have HB11 := Lib.hid (HB10.out.trans (hb11.mono HB10.out.size))
          have HRM11 := Lib.hid ((HRM10.out.below hb11).wide (ok' := fun k => k < w11.heap.size) fun k hk _ => Nat.lt_of_lt_of_le hk hb11.size)
          have c11 := scall_any m (by have := HWM.out; omega) _ y2 c2 w11 (HG.out.below HB11.out) HRM11.out (fun _ h => h)
          rw [HN2.out, HSF.out.2] at c11
          have HOWN11 := Lib.hid hown11
          clear hb11 hown11 HROW10 HRM10
          go_wp2_with fail
          refine c11.mono ?_
          clear c11
          rintro e w12 ⟨v12, rfl, hown12, hb12⟩
          have HB12 := Lib.hid (HB11.out.trans (hb12.mono HB11.out.size))
          have cs2 := ssame_any (scallR l) (scallR l) HLE.out.2 _ _ v11 v12 w12 (own_below HOWN11.out hb12) hown12
          rw [decide_eq_true rfl] at cs2
          clear hb12 hown12 HRM11 HOWN11
          go_wp2_with fail
          refine cs2.mono ?_
          clear cs2
          rintro e w13 ⟨rfl, hb13⟩
          have HB13 := Lib.hid (HB12.out.trans (hb13.mono HB12.out.size))
          have cw := swakes_any w13 (HG.out.below HB13.out) (HE.out.below HB13.out)
          clear hb13
          go_wp2_with fail
          refine cw.mono ?_
          clear cw
          rintro e w14 ⟨rfl, hb14⟩
          have HB14 := Lib.hid (HB13.out.trans (hb14.mono HB13.out.size))
          clear hb14
          go_wp2_with fail
          go_ret
          exact ⟨rfl, HB14.out⟩
        · go_wp2_with fail
          refine c8.mono ?_
          clear c8
          rintro e w9 ⟨v9, rfl, hown9, hb9⟩
          have HB9 := Lib.hid (HB8.out.trans (hb9.mono HB8.out.size))
          have HROW9 := Lib.hid ((HROW8.out.below hb9).wide (ok' := fun k => k < w9.heap.size) fun k hk _ => Nat.lt_of_lt_of_le hk hb9.size)
          have HRM9 := Lib.hid ((HRM8.out.below hb9).wide (ok' := fun k => k < w9.heap.size) fun k hk _ => Nat.lt_of_lt_of_le hk hb9.size)
          have cs := ssame_any (sfreeR l) (sfreeR l) HLE.out.1 w7.heap.size w8.heap.size (.slice af (sfreeR l).length cf) v9 w9 (own_below HOWN.out hb9) hown9
          rw [decide_eq_true rfl, HNF.out] at cs
          clear hb9 hown9 HROW8 HRM8 HOWN
          go_wp2_with fail
          refine cs.mono ?_
          clear cs
          rintro e w10 ⟨rfl, hb10⟩
          have HB10 := Lib.hid (HB9.out.trans (hb10.mono HB9.out.size))
          have HROW10 := Lib.hid ((HROW9.out.below hb10).wide (ok' := fun k => k < w10.heap.size) fun k hk _ => Nat.lt_of_lt_of_le hk hb10.size)
          have HRM10 := Lib.hid ((HRM9.out.below hb10).wide (ok' := fun k => k < w10.heap.size) fun k hk _ => Nat.lt_of_lt_of_le hk hb10.size)
          have c10 := scall_any l (by have := HW.out; omega) _ y c w10 (HG.out.below HB10.out) HROW10.out (fun _ h => h)
          rw [HN.out] at c10
          clear hb10 HROW9 HRM9
          go_wp2_with fail
          refine c10.mono ?_
          clear c10
          rintro e w11 ⟨v11, rfl, hown11, hb11⟩
          have HB11 := Lib.hid (HB10.out.trans (hb11.mono HB10.out.size))
          have HRM11 := Lib.hid ((HRM10.out.below hb11).wide (ok' := fun k => k < w11.heap.size) fun k hk _ => Nat.lt_of_lt_of_le hk hb11.size)
          have c11 := scall_any m (by have := HWM.out; omega) _ y2 c2 w11 (HG.out.below HB11.out) HRM11.out (fun _ h => h)
          rw [HN2.out, HSF.out.2] at c11
          have HOWN11 := Lib.hid hown11
          clear hb11 hown11 HROW10 HRM10
          go_wp2_with fail
          refine c11.mono ?_
          clear c11
          rintro e w12 ⟨v12, rfl, hown12, hb12⟩
          have HB12 := Lib.hid (HB11.out.trans (hb12.mono HB11.out.size))
          have cs2 := ssame_any (scallR l) (scallR l) HLE.out.2 _ _ v11 v12 w12 (own_below HOWN11.out hb12) hown12
          rw [decide_eq_true rfl] at cs2
          clear hb12 hown12 HRM11 HOWN11
          go_wp2_with fail
          refine cs2.mono ?_
          clear cs2
          rintro e w13 ⟨rfl, hb13⟩
          have HB13 := Lib.hid (HB12.out.trans (hb13.mono HB12.out.size))
          have cw := swakes_any w13 (HG.out.below HB13.out) (HE.out.below HB13.out)
          clear hb13
          go_wp2_with fail
          refine cw.mono ?_
          clear cw
          rintro e w14 ⟨rfl, hb14⟩
          have HB14 := Lib.hid (HB13.out.trans (hb14.mono HB13.out.size))
          clear hb14
          go_wp2_with fail
          go_ret
          exact ⟨rfl, HB14.out⟩
end Go.Proofs.YtpbkeamjdolpgaaGreatDoor
