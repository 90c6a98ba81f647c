/- What the Scope rows' statements ask: same, wakes. What the Scope rows' statements ask: wakes. Plain: what a walk finds hangs on the tree but for places; what codes there are. What the Scope rows' statements ask: code. The walk of ScopePrints. Plain: what stands by name, as the document keeps it: a list of definitions, each with its depth; what a walk finds hangs on what is found alone. The reference's walk of a tree (scope): what is kept between two steps; its small methods. The reference's walk of a tree (scope): what is wrong; blocks; definitions. The reference's walk of a tree (scope): a definition more; a block's end. The reference's walk of a tree (scope): what stands by a name. The reference's walk of a tree (scope): whether a block has a name itself; one definition more. The reference's walk of a tree (scope): the names that are built in. The reference's walk of a tree (scope): a text into a rising list. The reference's walk of a tree (scope): a name that does not stand. -/
import Derived.Test.YtpbkeamjdolpgaaGreatDoorZa03
import Derived.Deep.QuietTactic
import Derived.Test.YtpbkeamjdolpgaaGreatDoorZa02
import Derived.Deep.RegionLaw
import Derived.Deep.AppendLies
import Derived.Deep.Upon
import Derived.Sort.Walk0
import Derived.Deep.RegionWith
namespace Go.Proofs.YtpbkeamjdolpgaaGreatDoor
open Go.RowKit Go.Lib

theorem names_at {w : World} {B : Nat} {v : Value} {l : List (List UInt8)} (h : w.ownsRow B 9 1 v l.length (l.map encStr)) : ∃ a c, v = .slice a l.length c ∧ ∀ i x, l[i]? = some x → ∃ g, a = some ⟨g, 0, none⟩ ∧ w.cell? ⟨g, i, none⟩ = some (.string ⟨x.toArray⟩) := by
  rcases h.2 with ⟨h1, h2⟩ | ⟨g, cap, cur, h1, _⟩
  · have hl : l = [] := List.length_eq_zero_iff.1 h2
    subst hl
    exact ⟨none, 0, h1, fun i x hx => by simp at hx⟩
  · refine ⟨_, _, h1, fun i x hx => ⟨g, rfl, ?_⟩⟩
    have := h.cells (g := g) (by rw [h1]; rfl) i (encStr x) (by simp [hx])
    simpa [Addr.add_lit, encStr] using this
set_option maxHeartbeats 4000000 in
set_option maxRecDepth 100000 in
theorem ssame_any (l1 l2 : List (List UInt8)) (hl : l1.length < 2 ^ 40) (B1 B2 : Nat) (v1 v2 : Value) (w : World) (h1 : w.ownsRow B1 9 1 v1 l1.length (l1.map encStr)) (h2 : w.ownsRow B2 9 1 v2 l2.length (l2.map encStr)) :
    Calls Tryz.prog 41 #[v1, v2] w fun e w' => e = .returned (.bool (decide (l1 = l2))) ∧ Below w.heap.size w w' := by
  obtain ⟨a1, c1, rfl, k1⟩ := names_at h1
  obtain ⟨a2, c2, rfl, k2⟩ := names_at h2
  clear h1 h2
  obtain ⟨n1, hn1⟩ : ∃ n, l1.length = n := ⟨_, rfl⟩
  obtain ⟨n2, hn2⟩ : ∃ n, l2.length = n := ⟨_, rfl⟩
  rw [hn1, hn2]
  rw [hn1] at hl
  have HN1 := Lib.hid hn1
  have HN2 := Lib.hid hn2
  have HK1 := Lib.hid k1
  have HK2 := Lib.hid k2
  clear hn1 hn2 k1 k2
  by_cases hn : n1 = n2
  · subst hn
    have Q : ((n1 : Int) != (n1 : Int)) = false := by simp
    go_enter Tryz.func41, Tryz.ntmps41
    go_wp2_with fail
    go_loopg [5] n1 (fun g v wx => ∃ i : Nat, v = .int .i64 i ∧ i + g = n1 ∧ l1.take i = l2.take i ∧ Below w.heap.size w wx)
    case atStart => exact ⟨0, rfl, by omega, by simp, Below.refl _ _⟩
    case round =>
      obtain ⟨i, rfl, hi, htk, hb⟩ := hrel
      by_cases hlt : i < n1
      · obtain ⟨x, hx⟩ : ∃ x, l1[i]? = some x := ⟨l1[i]'(by have := HN1.out; omega), List.getElem?_eq_getElem _⟩
        obtain ⟨z, hz⟩ : ∃ x, l2[i]? = some x := ⟨l2[i]'(by have := HN2.out; omega), List.getElem?_eq_getElem _⟩
        obtain ⟨g1, rfl, q1⟩ := HK1.out i x hx
        obtain ⟨g2, rfl, q2⟩ := HK2.out i z hz
        have r1 := (hb.cell (p := ⟨g1, i, none⟩) (World.block_lt_of_cell? w _ q1)).trans q1
        have r2 := (hb.cell (p := ⟨g2, i, none⟩) (World.block_lt_of_cell? w _ q2)).trans q2
        have hlt' : (i : Int) < (n1 : Int) := by omega
        have Qi1 : IntKind.i64.wrap ((i : Int) + 1) = (i : Int) + 1 := IntWalk.i64_in _ (by omega)
        have HB := Lib.hid hb
        have HX := Lib.hid hx
        have HZ := Lib.hid hz
        have HTK := Lib.hid htk
        clear hb q1 q2 hx hz htk
        by_cases hxz : x = z
        · have Q2 : (!(x == z)) = false := by simp [hxz]
          have HT2 : Hid (l1.take (i + 1) = l2.take (i + 1)) := by
            show _ = _
            rw [List.take_add_one, List.take_add_one, HX.out, HZ.out, HTK.out, hxz]
          clear hxz
          go_wp2_with fail
          go_quiet (fail)
          go_wp2_with fail
          go_roundg (gk - 1)
          case measure => omega
          case rel => exact ⟨i + 1, rfl, by omega, HT2.out, bdn HB.out _⟩
        · have Q2 : (!(x == z)) = true := by simp [hxz]
          have HNE : Hid (decide (l1 = l2) = false) := by
            refine Lib.hid (decide_eq_false fun h => hxz ?_)
            subst h
            have h1 := HX.out.symm.trans HZ.out
            cases h1
            rfl
          clear hxz
          go_wp2_with fail
          go_quiet (fail)
          go_wp2_with fail
          go_ret
          rw [HNE.out]
          exact ⟨rfl, bdn HB.out _⟩
      · have hlt' : ¬ (i : Int) < (n1 : Int) := by omega
        have HEQ : Hid (decide (l1 = l2) = true) := Lib.hid (decide_eq_true (by
          have h1 : l1.take i = l1 := List.take_of_length_le (by have := HN1.out; omega)
          have h2 : l2.take i = l2 := List.take_of_length_le (by have := HN2.out; omega)
          rw [h1, h2] at htk
          exact htk))
        have HB := Lib.hid hb
        clear hb htk
        go_wp2_with fail
        go_ret
        rw [HEQ.out]
        exact ⟨rfl, HB.out⟩
  · have Q : ((n1 : Int) != (n2 : Int)) = true := by
      rw [bne_iff_ne]
      omega
    have HNE : Hid (decide (l1 = l2) = false) := Lib.hid (decide_eq_false fun h => hn (by rw [← HN1.out, ← HN2.out, h]))
    go_enter Tryz.func41, Tryz.ntmps41
    go_wp2_with fail
    go_ret
    rw [HNE.out]
    exact ⟨rfl, Below.refl _ _⟩
end Go.Proofs.YtpbkeamjdolpgaaGreatDoor
namespace Go.Proofs.YtpbkeamjdolpgaaGreatDoor
open Go.RowKit Go.Lib

def wkL : List Nd := [.mk 1 [97] [.mk 10 [98] [] 4] 0]
theorem wkL_check : checkR wkL = 0 := by kernel_rfl
theorem wkL_wrong : wrongE (evX wkL) = some (280, [98], 4) := by kernel_rfl
theorem wkL_free : sfreeR wkL = [[98]] := by kernel_rfl
set_option maxHeartbeats 4000000 in
set_option maxRecDepth 100000 in
theorem swakes_any (w : World) (hG : Gl w) (hE : GlE w) : Calls Tryz.prog 15 #[] w fun e w' => e = .returned (.bool true) ∧ Below w.heap.size w w' := by
  have hz := World.size_alloc w (.cells #[.int .i64 10, .string ⟨#[98]⟩, .slice none 0 0, .int .i64 4] 53)
  have hA1 : Below w.heap.size w (w.alloc (.cells #[.int .i64 10, .string ⟨#[98]⟩, .slice none 0 0, .int .i64 4] 53)) := (Below.refl _ _).alloc (Nat.le_refl _) _
  have hA : Below w.heap.size w ((w.alloc (.cells #[.int .i64 10, .string ⟨#[98]⟩, .slice none 0 0, .int .i64 4] 53)).alloc (.cells #[.int .i64 1, .string ⟨#[97]⟩, .slice (some ⟨w.heap.size, 0, none⟩) 1 1, .int .i64 0] 53)) := hA1.alloc (by rw [hz]; omega) _
  have r1 : NdRow (w.alloc (.cells #[.int .i64 10, .string ⟨#[98]⟩, .slice none 0 0, .int .i64 4] 53)) (fun b => w.heap.size ≤ b) [.mk 10 [98] [] 4] (some ⟨w.heap.size, 0, none⟩) :=
    NdRow.buildK (ok := fun b => w.heap.size ≤ b) (Nat.le_refl _) (NFlat.one (NdRow.cells (w := w) (k := 10) (n := [98]) (kids := []) (p := 4) (y := none) (c := ⟨0, Nat.le_refl _⟩) trivial))
  have r2 : NdRow ((w.alloc (.cells #[.int .i64 10, .string ⟨#[98]⟩, .slice none 0 0, .int .i64 4] 53)).alloc (.cells #[.int .i64 1, .string ⟨#[97]⟩, .slice (some ⟨w.heap.size, 0, none⟩) 1 1, .int .i64 0] 53)) (fun b => w.heap.size ≤ b) wkL (some ⟨(w.alloc (.cells #[.int .i64 10, .string ⟨#[98]⟩, .slice none 0 0, .int .i64 4] 53)).heap.size, 0, none⟩) :=
    NdRow.buildK (ok := fun b => w.heap.size ≤ b) (by rw [hz]; omega) (NFlat.one (NdRow.cells (k := 1) (n := [97]) (kids := [.mk 10 [98] [] 4]) (p := 0) (y := some ⟨w.heap.size, 0, none⟩) (c := ⟨1, Nat.le_refl _⟩) r1))
  have r3 := NdRow.mono (ok' := fun b => b < ((w.alloc (.cells #[.int .i64 10, .string ⟨#[98]⟩, .slice none 0 0, .int .i64 4] 53)).alloc (.cells #[.int .i64 1, .string ⟨#[97]⟩, .slice (some ⟨w.heap.size, 0, none⟩) 1 1, .int .i64 0] 53)).heap.size) (fun k _ h => h) (fun _ _ _ => rfl) _ _ r2
  rw [hz] at r3
  obtain ⟨W, hW⟩ : ∃ W, (w.alloc (.cells #[.int .i64 10, .string ⟨#[98]⟩, .slice none 0 0, .int .i64 4] 53)).alloc (.cells #[.int .i64 1, .string ⟨#[97]⟩, .slice (some ⟨w.heap.size, 0, none⟩) 1 1, .int .i64 0] 53) = W := ⟨_, rfl⟩
  have hW' := hW
  rw [hW] at hA r3
  have cC := scheck_any wkL (by show (4 : Nat) < _; decide) _ _ 1 W (hG.below hA) r3 (fun _ h => h)
  have HR := Lib.hid r3
  have HA := Lib.hid hA
  have HG := Lib.hid hG
  have HE := Lib.hid hE
  clear r1 r2 r3 hA1 hA hz hG hE hW'
  go_enter Tryz.func15, Tryz.ntmps15
  go_wp2_with fail
  clear hW
  generalize w.heap.size + 1 = g1 at *
  have hkk : checkR wkL = 0 := wkL_check
  refine cC.mono ?_
  clear cC
  rintro e w2 ⟨hb2, (⟨h0, -⟩ | ⟨-, h0, -⟩ | ⟨-, c, n, p, b, h1, h2, rfl, h3⟩)⟩
  · exact absurd hkk h0
  · rw [wkL_wrong] at h0
    cases h0
  rw [wkL_wrong] at h1
  cases h1
  have hbw2 := HA.out.trans (hb2.mono HA.out.size)
  have cF := sfree_any wkL (by show (4 : Nat) < _; decide) _ (some ⟨g1, 0, none⟩) 1 w2 (HG.out.below hbw2) (HR.out.below hb2) (fun b hb => Nat.lt_of_lt_of_le hb hb2.size)
  rw [wkL_free] at cF
  have HB2 := Lib.hid hbw2
  have H3 := Lib.hid h3
  clear hb2 hbw2 h2 h3 hkk
  go_wp2_with fail
  refine cF.mono ?_
  clear cF
  rintro e w3 ⟨v, rfl, hown, hb3⟩
  obtain ⟨a, c, rfl, hat⟩ := names_at hown
  obtain ⟨g, rfl, hc⟩ := hat 0 [98] rfl
  have hbw3 := HB2.out.trans (hb3.mono HB2.out.size)
  have h3' := (hb3.block b (Array.getElem?_eq_some_iff.1 H3.out).1).trans H3.out
  have hA4 : Below w3.heap.size w3 (w3.alloc (.cells #[.int .i64 280, .int .i64 4, .string ⟨#[98]⟩] 61)) := (Below.refl _ _).alloc (Nat.le_refl _) _
  have cT := stold_hit 280 4 ⟨#[98]⟩ b w3.heap.size (w3.alloc (.cells #[.int .i64 280, .int .i64 4, .string ⟨#[98]⟩] 61)) ((HE.out.below hbw3).below hA4) ((hA4.block b (Array.getElem?_eq_some_iff.1 h3').1).trans h3') (heap_alloc_new w3 _)
  have HB4 := Lib.hid (hbw3.trans (hA4.mono hbw3.size))
  have HC := Lib.hid ((hA4.cell (p := ⟨g, 0, none⟩) (World.block_lt_of_cell? w3 _ hc)).trans hc)
  clear hown hat hb3 hbw3 h3' hA4 hc H3 HB2
  go_wp2_with (first | (go_at_call 39; refine cT.mono ?_; rintro e w5 ⟨rfl, hb5⟩; have hc5 := (hb5.cell (p := ⟨g, 0, none⟩) (World.block_lt_of_cell? _ _ HC.out)).trans HC.out; have hbw5 := HB4.out.trans (hb5.mono HB4.out.size); have cN := scheck_any [] (by show (0 : Nat) < _; decide) (fun _ => False) none 0 w5 (HG.out.below hbw5) trivial (fun _ h => h.elim)) | (go_at_call 37; refine cN.mono ?_; rintro e w6 ⟨hb6, (⟨h0, -⟩ | ⟨-, -, rfl⟩ | ⟨-, c, n, p, b, h1, -⟩)⟩))
  go_ret
  exact ⟨rfl, hbw5.trans (hb6.mono hbw5.size)⟩
end Go.Proofs.YtpbkeamjdolpgaaGreatDoor
namespace Go.Proofs.YtpbkeamjdolpgaaGreatDoor

end Go.Proofs.YtpbkeamjdolpgaaGreatDoor
namespace Go.Proofs.YtpbkeamjdolpgaaGreatDoor
open Go.RowKit Go.Lib Go.Extern.Stop Go.Stop Go.Extern

end Go.Proofs.YtpbkeamjdolpgaaGreatDoor
namespace Go.Proofs.YtpbkeamjdolpgaaGreatDoor
open Go.RowKit Go.Lib

theorem putS_len : ∀ (l : List (List UInt8)) (s : List UInt8), (putS l s).length ≤ l.length + 1
  | [], s => by simp [putS]
  | x :: r, s => by
    rw [putS]
    have := putS_len r s
    split
    · simp only [List.length_cons]
      omega
    · split <;> simp
theorem foldS_len : ∀ (l a : List (List UInt8)), (l.foldl putS a).length ≤ l.length + a.length
  | [], a => by simp
  | s :: r, a => by
    rw [List.foldl_cons, List.length_cons]
    have := foldS_len r (putS a s)
    have := putS_len a s
    omega
theorem names_len (l : List Nd) (h : wtL l < 2 ^ 38) : (sfreeR l).length < 2 ^ 40 ∧ (scallR l).length < 2 ^ 40 := by
  have h1 := evSs_len l [none] 0
  have h2 : (missE (evX l)).length ≤ (evSs l [none] 0).length := missE_len (evX l)
  have h3 : (calledE (evX l)).length ≤ (evSs l [none] 0).length := calledE_len (evX l)
  have h4 := foldS_len (missE (evX l)) []
  have h5 := foldS_len (calledE (evX l)) []
  simp only [List.length_nil] at h4 h5
  unfold sfreeR scallR risL
  constructor <;> (split <;> (try simp only [List.length_nil]) <;> omega)
end Go.Proofs.YtpbkeamjdolpgaaGreatDoor
namespace Go.Proofs.YtpbkeamjdolpgaaGreatDoor

def depthE : Env → Nat
  | [] => 0
  | none :: r => depthE r + 1
  | some _ :: r => depthE r
abbrev DefR := Nat × List UInt8 × Nat × Nat
def defsE : Env → List DefR
  | [] => []
  | none :: r => defsE r
  | some (k, s, a) :: r => defsE r ++ [(k, s, a, depthE r)]
def lastD (k : Nat) (s : List UInt8) : List DefR → Option DefR
  | [] => none
  | d :: r => match lastD k s r with
    | some e => some e
    | none => if d.1 = k ∧ d.2.1 = s then some d else none
theorem lastD_snoc (k : Nat) (s : List UInt8) (d : DefR) : ∀ l : List DefR, lastD k s (l ++ [d]) = if d.1 = k ∧ d.2.1 = s then some d else lastD k s l
  | [] => by simp [lastD]
  | e :: r => by
    show (match lastD k s (r ++ [d]) with | some e => some e | none => if e.1 = k ∧ e.2.1 = s then some e else none) = _
    rw [lastD_snoc k s d r]
    by_cases h : d.1 = k ∧ d.2.1 = s
    · rw [if_pos h, if_pos h]
    · rw [if_neg h, if_neg h]
      rfl
theorem lastD_find : ∀ (ρ : Env) (k : Nat) (s : List UInt8), (lastD k s (defsE ρ)).map (·.2.2.1) = findE ρ k s false
  | [], _, _ => rfl
  | none :: r, k, s => lastD_find r k s
  | some (k', s', a) :: r, k, s => by
    show (lastD k s (defsE r ++ [(k', s', a, depthE r)])).map _ = if k = k' ∧ s = s' then some a else findE r k s false
    rw [lastD_snoc]
    by_cases h : k = k' ∧ s = s'
    · obtain ⟨rfl, rfl⟩ := h
      simp
    · rw [if_neg h, if_neg (fun e => h ⟨e.1.symm, e.2.symm⟩)]
      exact lastD_find r k s
theorem lastD_deep : ∀ (ρ : Env) (k : Nat) (s : List UInt8) (d : DefR), lastD k s (defsE ρ) = some d → d.2.2.2 ≤ depthE ρ
  | [], _, _, _, h => by simp [defsE, lastD] at h
  | none :: r, k, s, d, h => Nat.le_succ_of_le (lastD_deep r k s d h)
  | some (k', s', a) :: r, k, s, d, h => by
    have h' : lastD k s (defsE r ++ [(k', s', a, depthE r)]) = some d := h
    rw [lastD_snoc] at h'
    split at h'
    · cases h'
      exact Nat.le_refl _
    · exact lastD_deep r k s d h'
theorem lastD_own : ∀ (ρ : Env) (k : Nat) (s : List UInt8), (match lastD k s (defsE ρ) with | some d => decide (d.2.2.2 = depthE ρ) | none => false) = (findE ρ k s true).isSome ∨ ρ.all (·.isSome) = true
  | [], _, _ => .inl rfl
  | none :: r, k, s => by
    left
    show (match lastD k s (defsE r) with | some d => decide (d.2.2.2 = depthE r + 1) | none => false) = false
    cases h : lastD k s (defsE r) with
    | none => rfl
    | some d =>
      have := lastD_deep r k s d h
      simp
      omega
  | some (k', s', a) :: r, k, s => by
    rcases lastD_own r k s with h | h
    · left
      show (match lastD k s (defsE r ++ [(k', s', a, depthE r)]) with | some d => decide (d.2.2.2 = depthE r) | none => false) = (if k = k' ∧ s = s' then some a else findE r k s true).isSome
      rw [lastD_snoc]
      by_cases hk : k = k' ∧ s = s'
      · obtain ⟨rfl, rfl⟩ := hk
        simp
      · rw [if_neg hk, if_neg (fun e => hk ⟨e.1.symm, e.2.symm⟩)]
        exact h
    · exact .inr (by simpa using h)

def Eqv (ρ σ : Env) : Prop := ∀ k s own, findE ρ k s own = findE σ k s own
theorem Eqv.cons {ρ σ : Env} (h : Eqv ρ σ) (d : Option (Nat × List UInt8 × Nat)) : Eqv (d :: ρ) (d :: σ) := by
  intro k s own
  cases d with
  | none => show (if own then none else findE ρ k s false) = _; rw [h]; rfl
  | some d =>
    obtain ⟨k', s', a⟩ := d
    show (if k = k' ∧ s = s' then some a else findE ρ k s own) = _
    rw [h]
    rfl
theorem Eqv.two (d : Nat × List UInt8 × Nat) (ρ : Env) : Eqv (none :: some d :: ρ) (none :: some d :: none :: ρ) := by
  intro k s own
  obtain ⟨k', s', a⟩ := d
  cases own
  · show (if k = k' ∧ s = s' then some a else findE ρ k s false) = (if k = k' ∧ s = s' then some a else findE (none :: ρ) k s false)
    rfl
  · rfl
theorem exprE_eqv {ρ σ : Env} (h : Eqv ρ σ) (k : Int) (n : List UInt8) (kids : List Nd) (p : Int) : exprE ρ k n kids p = exprE σ k n kids p := by
  unfold exprE
  rw [h 0, h 1]
mutual
theorem evE_eqv {ρ σ : Env} (h : Eqv ρ σ) : ∀ x : Nd, evE ρ x = evE σ x
  | .mk k n kids p => by
    rw [evE, evE, exprE_eqv h, evEs_eqv h kids]
theorem evEs_eqv {ρ σ : Env} (h : Eqv ρ σ) : ∀ l : List Nd, evEs ρ l = evEs σ l
  | [] => rfl
  | x :: r => by
    rw [evEs, evEs, evE_eqv h x, evEs_eqv h r]
end
theorem dupE_eqv {ρ σ : Env} (h : Eqv ρ σ) (n : List UInt8) (p : Int) : dupE ρ n p = dupE σ n p := by
  unfold dupE
  rw [h]
theorem defE_eqv {ρ σ : Env} (h : Eqv ρ σ) (k : Nat) (n : List UInt8) (p : Int) : defE ρ k n p = defE σ k n p := by
  unfold defE
  rw [h]
theorem callE_eqv {ρ σ : Env} (h : Eqv ρ σ) (m : Nat) (n : List UInt8) (kids : List Nd) (p : Int) : callE ρ m n kids p = callE σ m n kids p := by
  unfold callE
  rw [h]
theorem parE_eqv : ∀ {ρ σ : Env} (_ : Eqv ρ σ) (l : List Nd), parE ρ l = parE σ l
  | _, _, _, [] => rfl
  | ρ, σ, h, .mk k n kids p :: r => by
    rw [parE, parE, dupE_eqv h, parE_eqv (h.cons _) r]
theorem parV_eqv : ∀ {ρ σ : Env} (_ : Eqv ρ σ) (l : List Nd), Eqv (parV ρ l) (parV σ l)
  | _, _, h, [] => h
  | ρ, σ, h, .mk k n kids p :: r => by
    rw [parV, parV]
    exact parV_eqv (h.cons _) r
theorem envS_eqv {ρ σ : Env} (h : Eqv ρ σ) : ∀ x : Nd, Eqv (envS ρ x) (envS σ x)
  | .mk k n kids p => by
    rw [envS, envS]
    split
    · exact h.cons _
    · split
      · exact h.cons _
      · split
        · exact h.cons _
        · exact h
mutual
theorem evS_eqv : ∀ (x : Nd) {ρ σ : Env} (_ : Eqv ρ σ) (m : Nat), evS x ρ m = evS x σ m
  | .mk k n kids p, ρ, σ, h, m => by
    have h2 := parV_eqv ((h.cons (some (2, n, argc kids))).cons none) (bodyOf kids)
    have h3 := parV_eqv ((h.cons (some (1, n, argc kids))).cons none) (bodyOf kids)
    rw [evS, evS, dupE_eqv h, evEs_eqv h kids, defE_eqv h, defE_eqv h, parE_eqv ((h.cons (some (2, n, argc kids))).cons none), parE_eqv ((h.cons (some (1, n, argc kids))).cons none), evT_eqv kids h2, evEs_eqv h3, evEs_eqv h (kids.take 1), evT_eqv kids (h.cons (some (0, n, 0))), evT_eqv kids h, callE_eqv h, evEs_eqv h (bodyOf kids)]
theorem evT_eqv : ∀ (l : List Nd) {ρ σ : Env} (_ : Eqv ρ σ) (m : Nat), evT l ρ m = evT l σ m
  | [], _, _, _, _ => rfl
  | x :: r, _, _, h, m => by rw [evT, evT, evBs_eqv r h m]
theorem evBs_eqv : ∀ (l : List Nd) {ρ σ : Env} (_ : Eqv ρ σ) (m : Nat), evBs l ρ m = evBs l σ m
  | [], _, _, _, _ => rfl
  | x :: r, _, _, h, m => by rw [evBs, evBs, evB_eqv x h m, evBs_eqv r h m]
theorem evB_eqv : ∀ (x : Nd) {ρ σ : Env} (_ : Eqv ρ σ) (m : Nat), evB x ρ m = evB x σ m
  | .mk k n l p, _, _, h, m => by rw [evB, evB, evSs_eqv l (h.cons none) m]
theorem evSs_eqv : ∀ (l : List Nd) {ρ σ : Env} (_ : Eqv ρ σ) (m : Nat), evSs l ρ m = evSs l σ m
  | [], _, _, _, _ => rfl
  | x :: r, _, _, h, m => by rw [evSs, evSs, evS_eqv x h m, evSs_eqv r (envS_eqv h x) m]
end
end Go.Proofs.YtpbkeamjdolpgaaGreatDoor
namespace Go.Proofs.YtpbkeamjdolpgaaGreatDoor
open Go.RowKit Go.Lib

structure RCtx where
  wb : Nat
  B : Nat
  all : Bool
abbrev FltR := Option (Int × List UInt8 × Int)
def defC (d : DefR) : List Value := [.int .i64 d.1, .string ⟨d.2.1.toArray⟩, .int .i64 d.2.2.1, .int .i64 d.2.2.2]
def defCs (l : List DefR) : List Value := l.flatMap defC
def FltAt (w : World) : FltR → Option Addr → Prop
  | none, fp => fp = none
  | some (c, n, p), fp => ∃ b, fp = some ⟨b, 0, none⟩ ∧ w.heap[b]? = some (.cells #[.int .i64 c, .int .i64 p, .string ⟨n.toArray⟩] 61 (0, 0))
structure RB (Γ : RCtx) (w : World) (dv : Value) (D : List DefR) (dp m : Nat) (fp : Option Addr) (F : FltR) (fv : Value) (fr : List (List UInt8)) (cv : Value) (ca : List (List UInt8)) : Prop where
  blk : w.heap[Γ.wb]? = some (.cells #[dv, .int .i64 dp, .int .i64 m, .pointer fp, .bool Γ.all, fv, cv] 129 (0, 0))
  dfs : w.ownsRow Γ.B 265 4 dv D.length (defCs D)
  flt : FltAt w F fp
  fre : w.ownsRow Γ.B 9 1 fv fr.length (fr.map encStr)
  cal : w.ownsRow Γ.B 9 1 cv ca.length (ca.map encStr)
  low : Γ.B ≤ Γ.wb
def RW (Γ : RCtx) (w : World) (D : List DefR) (dp m : Nat) (F : FltR) (fr ca : List (List UInt8)) : Prop := ∃ dv fp fv cv, RB Γ w dv D dp m fp F fv fr cv ca
structure OwR (Γ : RCtx) (w w' : World) : Prop where
  os : w'.os = w.os
  tape : w'.tape = w.tape
  output : w'.output = w.output
  size : w.heap.size ≤ w'.heap.size
  block : ∀ k, k < w.heap.size → k ≠ Γ.wb → (k < Γ.B ∨ ∀ cur fr, w.heap[k]? ≠ some (.cells cur 265 fr)) → w'.heap[k]? = w.heap[k]?
theorem OwR.refl (Γ : RCtx) (w : World) : OwR Γ w w := ⟨rfl, rfl, rfl, Nat.le_refl _, fun _ _ _ _ => rfl⟩
theorem OwR.trans {Γ : RCtx} {w w1 w2 : World} (h : OwR Γ w w1) (k : OwR Γ w1 w2) : OwR Γ w w2 :=
  ⟨k.os.trans h.os, k.tape.trans h.tape, k.output.trans h.output, Nat.le_trans h.size k.size, fun j hj hn hd => by
    have h1 := h.block j hj hn hd
    exact (k.block j (Nat.lt_of_lt_of_le hj h.size) hn (hd.imp id fun h2 cur fr => by rw [h1]; exact h2 cur fr)).trans h1⟩
theorem OwR.of_below {Γ : RCtx} {w w' : World} (h : Below w.heap.size w w') : OwR Γ w w' := ⟨h.os, h.tape, h.output, h.size, fun k hk _ _ => h.block k hk⟩
theorem OwR.below {Γ : RCtx} {w w1 w2 : World} (h : OwR Γ w w1) (k : Below w1.heap.size w1 w2) : OwR Γ w w2 := h.trans (.of_below k)
theorem OwR.own {Γ : RCtx} {w w' : World} (h : Ow Γ.wb w w') : OwR Γ w w' := ⟨h.os, h.tape, h.output, h.size, fun k hk hn _ => h.block k hk hn⟩
theorem OwR.toBelow {Γ : RCtx} {w w' : World} (h : OwR Γ w w') (hB : Γ.B ≤ Γ.wb) : Below Γ.B w w' ∨ ¬ Γ.B ≤ w.heap.size := by
  by_cases hs : Γ.B ≤ w.heap.size
  · exact .inl ⟨h.os, h.tape, h.output, h.size, fun k hk => h.block k (by omega) (by omega) (.inl hk)⟩
  · exact .inr hs
theorem OwR.keep {Γ : RCtx} {w w' : World} (h : OwR Γ w w') {k : Nat} {vs : Array Value} {t : TypeId} {fr : Nat × Nat} (hk : w.heap[k]? = some (.cells vs t fr)) (ht : t ≠ 265) (hn : k ≠ Γ.wb) : w'.heap[k]? = some (.cells vs t fr) :=
  (h.block k (Array.getElem?_eq_some_iff.1 hk).1 hn (.inr fun cur fr' e => by
    rw [hk] at e
    cases e
    exact ht rfl)).trans hk
theorem own_other {w w' : World} {B : Nat} {t : TypeId} {s n : Nat} {v : Value} {xs : List Value} (h : w.ownsRow B t s v n xs) (hk : ∀ (g : Nat) (cur : Array Value), w.heap[g]? = some (Obj.cells cur t (0, 0)) → w'.heap[g]? = w.heap[g]?) : w'.ownsRow B t s v n xs := by
  refine ⟨h.1, ?_⟩
  rcases h.2 with h1 | ⟨g, cap, cur, h1, h2, h3, h4⟩
  · exact .inl h1
  · exact .inr ⟨g, cap, cur, h1, h2, (hk g cur h3).trans h3, h4⟩
section
variable {Γ : RCtx} {w w' : World} {dv : Value} {D : List DefR} {dp m : Nat} {fp : Option Addr} {F : FltR} {fv : Value} {fr : List (List UInt8)} {cv : Value} {ca : List (List UInt8)}
theorem RB.lt (h : RB Γ w dv D dp m fp F fv fr cv ca) : Γ.wb < w.heap.size := (Array.getElem?_eq_some_iff.1 h.blk).1
theorem RB.ne (h : RB Γ w dv D dp m fp F fv fr cv ca) {g : Nat} {cur : Array Value} {t : TypeId} {q : Nat × Nat} (hg : w.heap[g]? = some (.cells cur t q)) (ht : t ≠ 129) : g ≠ Γ.wb := by
  rintro rfl
  rw [h.blk] at hg
  cases hg
  exact ht rfl
theorem RB.dfsK (h : RB Γ w dv D dp m fp F fv fr cv ca) (hk : ∀ k, k < w.heap.size → k ≠ Γ.wb → w'.heap[k]? = w.heap[k]?) : w'.ownsRow Γ.B 265 4 dv D.length (defCs D) :=
  own_other h.dfs fun g cur hg => hk g (Array.getElem?_eq_some_iff.1 hg).1 (h.ne hg (by decide))
theorem RB.freK (h : RB Γ w dv D dp m fp F fv fr cv ca) (hk : ∀ k, k < w.heap.size → k ≠ Γ.wb → w'.heap[k]? = w.heap[k]?) : w'.ownsRow Γ.B 9 1 fv fr.length (fr.map encStr) :=
  own_other h.fre fun g cur hg => hk g (Array.getElem?_eq_some_iff.1 hg).1 (h.ne hg (by decide))
theorem RB.calK (h : RB Γ w dv D dp m fp F fv fr cv ca) (hk : ∀ k, k < w.heap.size → k ≠ Γ.wb → w'.heap[k]? = w.heap[k]?) : w'.ownsRow Γ.B 9 1 cv ca.length (ca.map encStr) :=
  own_other h.cal fun g cur hg => hk g (Array.getElem?_eq_some_iff.1 hg).1 (h.ne hg (by decide))
theorem RB.fltK (h : RB Γ w dv D dp m fp F fv fr cv ca) (hk : ∀ k, k < w.heap.size → k ≠ Γ.wb → w'.heap[k]? = w.heap[k]?) : FltAt w' F fp := by
  have h1 := h.flt
  cases F with
  | none => exact h1
  | some x =>
    obtain ⟨c, n, p⟩ := x
    obtain ⟨b, h2, h3⟩ := h1
    exact ⟨b, h2, (hk b (Array.getElem?_eq_some_iff.1 h3).1 (h.ne h3 (by decide))).trans h3⟩
theorem RB.below (h : RB Γ w dv D dp m fp F fv fr cv ca) (hb : Below w.heap.size w w') : RB Γ w' dv D dp m fp F fv fr cv ca :=
  have hk : ∀ k, k < w.heap.size → k ≠ Γ.wb → w'.heap[k]? = w.heap[k]? := fun k hk _ => hb.block k hk
  ⟨(hb.block _ h.lt).trans h.blk, h.dfsK hk, h.fltK hk, h.freK hk, h.calK hk, h.low⟩
theorem RB.cells (h : RB Γ w dv D dp m fp F fv fr cv ca) : w.cell? ⟨Γ.wb, 0, none⟩ = some dv ∧ w.cell? ⟨Γ.wb, 1, none⟩ = some (.int .i64 dp) ∧ w.cell? ⟨Γ.wb, 2, none⟩ = some (.int .i64 m) ∧ w.cell? ⟨Γ.wb, 3, none⟩ = some (.pointer fp) ∧
    w.cell? ⟨Γ.wb, 4, none⟩ = some (.bool Γ.all) ∧ w.cell? ⟨Γ.wb, 5, none⟩ = some fv ∧ w.cell? ⟨Γ.wb, 6, none⟩ = some cv ∧ ∀ o, w.frozen? ⟨Γ.wb, o, none⟩ = false := by
  have hb := h.blk
  refine ⟨?_, ?_, ?_, ?_, ?_, ?_, ?_, fun o => ?_⟩ <;> simp [World.cell?, World.frozen?, hb]
theorem RB.same (_h : RB Γ w dv D dp m fp F fv fr cv ca) (o : Nat) (v : Value) : ∀ k, k < w.heap.size → k ≠ Γ.wb → (w.setCell ⟨Γ.wb, o, none⟩ v).heap[k]? = w.heap[k]? := fun _ _ hn => Below.heap_setCell _ _ _ _ hn
theorem RB.setDeep (h : RB Γ w dv D dp m fp F fv fr cv ca) (n : Nat) : RB Γ (w.setCell ⟨Γ.wb, 1, none⟩ (.int .i64 n)) dv D n m fp F fv fr cv ca :=
  ⟨by simp [World.setCell, Array.getElem?_modify, h.blk], h.dfsK (h.same _ _), h.fltK (h.same _ _), h.freK (h.same _ _), h.calK (h.same _ _), h.low⟩
theorem RB.setIn (h : RB Γ w dv D dp m fp F fv fr cv ca) (n : Nat) : RB Γ (w.setCell ⟨Γ.wb, 2, none⟩ (.int .i64 n)) dv D dp n fp F fv fr cv ca :=
  ⟨by simp [World.setCell, Array.getElem?_modify, h.blk], h.dfsK (h.same _ _), h.fltK (h.same _ _), h.freK (h.same _ _), h.calK (h.same _ _), h.low⟩
theorem RB.setFlt (h : RB Γ w dv D dp m fp F fv fr cv ca) {fp' : Option Addr} {F' : FltR} (hf : FltAt (w.setCell ⟨Γ.wb, 3, none⟩ (.pointer fp')) F' fp') : RB Γ (w.setCell ⟨Γ.wb, 3, none⟩ (.pointer fp')) dv D dp m fp' F' fv fr cv ca :=
  ⟨by simp [World.setCell, Array.getElem?_modify, h.blk], h.dfsK (h.same _ _), hf, h.freK (h.same _ _), h.calK (h.same _ _), h.low⟩
theorem RB.setFree (h : RB Γ w dv D dp m fp F fv fr cv ca) {v : Value} {l : List (List UInt8)} (hv : w.ownsRow Γ.B 9 1 v l.length (l.map encStr)) : RB Γ (w.setCell ⟨Γ.wb, 5, none⟩ v) dv D dp m fp F v l cv ca :=
  ⟨by simp [World.setCell, Array.getElem?_modify, h.blk], h.dfsK (h.same _ _), h.fltK (h.same _ _), own_other hv fun g cur hg => h.same _ _ g (Array.getElem?_eq_some_iff.1 hg).1 (h.ne hg (by decide)), h.calK (h.same _ _), h.low⟩
theorem RB.setCalls (h : RB Γ w dv D dp m fp F fv fr cv ca) {v : Value} {l : List (List UInt8)} (hv : w.ownsRow Γ.B 9 1 v l.length (l.map encStr)) : RB Γ (w.setCell ⟨Γ.wb, 6, none⟩ v) dv D dp m fp F fv fr v l :=
  ⟨by simp [World.setCell, Array.getElem?_modify, h.blk], h.dfsK (h.same _ _), h.fltK (h.same _ _), h.freK (h.same _ _), own_other hv fun g cur hg => h.same _ _ g (Array.getElem?_eq_some_iff.1 hg).1 (h.ne hg (by decide)), h.low⟩
theorem OwR.setCell {W : World} (h : OwR Γ W w) (o : Nat) (v : Value) : OwR Γ W (w.setCell ⟨Γ.wb, o, none⟩ v) :=
  h.trans (.own ((Ow.refl _ _).setCell (a := ⟨Γ.wb, o, none⟩) (.inl rfl) _))
end
set_option maxHeartbeats 4000000 in
set_option maxRecDepth 100000 in
theorem ron_any (Γ : RCtx) (w : World) (D : List DefR) (dp m : Nat) (F : FltR) (fr ca : List (List UInt8)) (h : RW Γ w D dp m F fr ca) :
    Calls Tryz.prog 184 #[.pointer (some ⟨Γ.wb, 0, none⟩)] w fun e w' => e = .returned (.bool (Γ.all || F.isNone)) ∧ w = w' := by
  obtain ⟨dv, fp, fv, cv, h⟩ := h
  obtain ⟨-, -, -, x3, x4, -⟩ := h.cells
  have hf := h.flt
  have HF : Hid ((fp = none ∧ F.isNone = true) ∨ (∃ b, fp = some ⟨b, 0, none⟩) ∧ F.isNone = false) := by
    cases F with
    | none => exact .inl ⟨hf, rfl⟩
    | some x =>
      obtain ⟨c, n, p⟩ := x
      obtain ⟨b, h2, -⟩ := hf
      exact .inr ⟨⟨b, h2⟩, rfl⟩
  obtain ⟨A, hA⟩ : ∃ A, Γ.all = A := ⟨_, rfl⟩
  rw [hA] at x4 ⊢
  clear h hf hA
  rcases HF.out with ⟨rfl, h1⟩ | ⟨⟨b, rfl⟩, h1⟩
  · rw [h1]
    clear h1 HF
    cases A
    · go_enter Tryz.func184, Tryz.ntmps184
      go_wp2_with fail
      go_ret
      exact ⟨rfl, rfl⟩
    · go_enter Tryz.func184, Tryz.ntmps184
      go_wp2_with fail
      go_ret
      exact ⟨rfl, rfl⟩
  · rw [h1]
    clear h1 HF
    cases A
    · go_enter Tryz.func184, Tryz.ntmps184
      go_wp2_with fail
      go_ret
      exact ⟨rfl, rfl⟩
    · go_enter Tryz.func184, Tryz.ntmps184
      go_wp2_with fail
      go_ret
      exact ⟨rfl, rfl⟩
end Go.Proofs.YtpbkeamjdolpgaaGreatDoor
namespace Go.Proofs.YtpbkeamjdolpgaaGreatDoor
open Go.RowKit Go.Lib

set_option maxHeartbeats 4000000 in
set_option maxRecDepth 100000 in
theorem rwrong_any (Γ : RCtx) (w : World) (D : List DefR) (dp m : Nat) (F : FltR) (fr ca : List (List UInt8)) (h : RW Γ w D dp m F fr ca) (k : Int) (n : List UInt8) (y : Option Addr) (len c : Nat) (p code : Int) :
    Calls Tryz.prog 223 #[.pointer (some ⟨Γ.wb, 0, none⟩), .agg #[.int .i64 k, .string ⟨n.toArray⟩, .slice y len c, .int .i64 p], .int .i64 code] w fun e w' => e = .returned (.tuple #[]) ∧ OwR Γ w w' ∧ RW Γ w' D dp m (F.or (some (code, n, p))) fr ca := by
  obtain ⟨dv, fp, fv, cv, h⟩ := h
  have hz := World.size_alloc w (.cells #[.int .i64 k, .string ⟨n.toArray⟩, .slice y len c, .int .i64 p] 53)
  have hA : Below w.heap.size w (w.alloc (.cells #[.int .i64 k, .string ⟨n.toArray⟩, .slice y len c, .int .i64 p] 53)) := (Below.refl _ _).alloc (Nat.le_refl _) _
  have h1 := h.below hA
  have hlt := h.lt
  obtain ⟨z0, z1, z2, z3, zf⟩ := (Box4.new w (.int .i64 k) (.string ⟨n.toArray⟩) (.slice y len c) (.int .i64 p)).facts
  cases F with
  | none =>
    obtain rfl : fp = none := h.flt
    have hA2 : Below (w.heap.size + 1) (w.alloc (.cells #[.int .i64 k, .string ⟨n.toArray⟩, .slice y len c, .int .i64 p] 53)) ((w.alloc (.cells #[.int .i64 k, .string ⟨n.toArray⟩, .slice y len c, .int .i64 p] 53)).alloc (.cells #[.int .i64 code, .int .i64 p, .string ⟨n.toArray⟩] 61)) := (Below.refl _ _).alloc (by rw [hz]; omega) _
    have h2 := h1.below (hz.symm ▸ hA2)
    have hn := heap_alloc_new (w.alloc (.cells #[.int .i64 k, .string ⟨n.toArray⟩, .slice y len c, .int .i64 p] 53)) (.cells #[.int .i64 code, .int .i64 p, .string ⟨n.toArray⟩] 61)
    rw [hz] at hn
    obtain ⟨-, -, -, x3, -⟩ := h1.cells
    obtain ⟨-, -, -, y3, -, -, -, yf⟩ := h2.cells
    have h3 := h2.setFlt (fp' := some ⟨w.heap.size + 1, 0, none⟩) (F' := some (code, n, p)) ⟨w.heap.size + 1, rfl, (Below.heap_setCell _ _ _ _ (show w.heap.size + 1 ≠ Γ.wb by omega)).trans hn⟩
    have ho : OwR Γ w (((w.alloc (.cells #[.int .i64 k, .string ⟨n.toArray⟩, .slice y len c, .int .i64 p] 53)).alloc (.cells #[.int .i64 code, .int .i64 p, .string ⟨n.toArray⟩] 61)).setCell ⟨Γ.wb, 3, none⟩ (.pointer (some ⟨w.heap.size + 1, 0, none⟩))) :=
      (((OwR.refl Γ w).below hA).below (hz.symm ▸ hA2)).setCell _ _
    have HEND : Hid (OwR Γ w _ ∧ RW Γ _ D dp m (some (code, n, p)) fr ca) := Lib.hid ⟨ho, ⟨_, _, _, _, h3⟩⟩
    have yf3 := yf 3
    clear h h1 h2 h3 ho hA hA2 hn hz hlt yf
    go_enter Tryz.func223, Tryz.ntmps223
    go_wp2_with fail
    go_end0
    exact ⟨rfl, HEND.out⟩
  | some x =>
    obtain ⟨c0, n0, p0⟩ := x
    obtain ⟨b, hb, -⟩ := h.flt
    subst hb
    obtain ⟨-, -, -, x3, -⟩ := h1.cells
    have HEND : Hid (OwR Γ w _ ∧ RW Γ _ D dp m (some (c0, n0, p0)) fr ca) := Lib.hid ⟨(OwR.refl Γ w).below hA, ⟨_, _, _, _, h1⟩⟩
    clear h h1 hA hz hlt
    go_enter Tryz.func223, Tryz.ntmps223
    go_wp2_with fail
    go_end0
    exact ⟨rfl, HEND.out⟩
set_option maxHeartbeats 4000000 in
set_option maxRecDepth 100000 in
theorem renter_any (Γ : RCtx) (w : World) (D : List DefR) (dp m : Nat) (F : FltR) (fr ca : List (List UInt8)) (hd : dp < 2 ^ 40) (h : RW Γ w D dp m F fr ca) :
    Calls Tryz.prog 183 #[.pointer (some ⟨Γ.wb, 0, none⟩)] w fun e w' => e = .returned (.int .i64 D.length) ∧ OwR Γ w w' ∧ RW Γ w' D (dp + 1) m F fr ca := by
  obtain ⟨dv, fp, fv, cv, h⟩ := h
  obtain ⟨-, x1, -, -, -, -, -, xf⟩ := h.cells
  have xf1 := xf 1
  have h1 := h.setDeep (dp + 1)
  obtain ⟨y0, -⟩ := h1.cells
  obtain ⟨a, cc, hdv⟩ : ∃ a c, dv = .slice a D.length c := by
    rcases h.dfs.2 with ⟨e1, e2⟩ | ⟨g, cap, cur, e1, -⟩
    · exact ⟨none, 0, by rw [e1, e2]⟩
    · exact ⟨_, _, e1⟩
  subst hdv
  have Q : IntKind.i64.wrap ((dp : Int) + 1) = (dp : Int) + 1 := IntWalk.i64_in _ (by omega)
  rw [show ((dp + 1 : Nat) : Int) = (dp : Int) + 1 from rfl] at y0
  have HEND : Hid (OwR Γ w (w.setCell ⟨Γ.wb, 1, none⟩ (.int .i64 ((dp : Int) + 1))) ∧ RW Γ (w.setCell ⟨Γ.wb, 1, none⟩ (.int .i64 ((dp : Int) + 1))) D (dp + 1) m F fr ca) := Lib.hid ⟨(OwR.refl Γ w).setCell 1 (.int .i64 (dp + 1 : Nat)), ⟨_, _, _, _, h1⟩⟩
  clear h h1 xf
  go_enter Tryz.func183, Tryz.ntmps183
  go_wp2_with fail
  go_ret
  exact ⟨rfl, HEND.out⟩
end Go.Proofs.YtpbkeamjdolpgaaGreatDoor
namespace Go.Proofs.YtpbkeamjdolpgaaGreatDoor
open Go.RowKit Go.Lib

theorem Tryz.infoDef : (Tryz.prog.info? 265).map (fun i => (i.zero, i.size, i.bytes)) = some (some (.agg #[.int .i64 0, .string ⟨#[]⟩, .int .i64 0, .int .i64 0]), 4, 40) := by kernel_rfl
theorem defCs_snoc (D : List DefR) (d : DefR) : defCs (D ++ [d]) = defCs D ++ defC d := by simp [defCs]
theorem defCs_len : ∀ D : List DefR, (defCs D).length = D.length * 4
  | [] => rfl
  | d :: r => by
    show (defC d ++ defCs r).length = (r.length + 1) * 4
    rw [List.length_append, defCs_len r]
    show 4 + _ = _
    omega
theorem defCs_take : ∀ (D : List DefR) (n : Nat), defCs (D.take n) = (defCs D).take (n * 4)
  | [], n => by simp [defCs]
  | d :: r, 0 => by simp [defCs]
  | d :: r, n + 1 => by
    show defC d ++ defCs (r.take n) = (defC d ++ defCs r).take ((n + 1) * 4)
    rw [defCs_take r n, List.take_append]
    have h1 : (defC d).length = 4 := rfl
    rw [h1, show (n + 1) * 4 - 4 = n * 4 by omega, List.take_of_length_le (show (defC d).length ≤ (n + 1) * 4 by rw [h1]; omega)]
section
variable {Γ : RCtx} {w w' : World} {dv : Value} {D : List DefR} {dp m : Nat} {fp : Option Addr} {F : FltR} {fv : Value} {fr : List (List UInt8)} {cv : Value} {ca : List (List UInt8)}
theorem RB.grown (h : RB Γ w dv D dp m fp F fv fr cv ca) {v' : Value} {d : DefR} (hg : w.grownBy w' dv.ownBlock) (hown : w'.ownsRow Γ.B 265 4 v' (D.length + 1) (defCs D ++ defC d)) :
    RB Γ (w'.setCell ⟨Γ.wb, 0, none⟩ v') v' (D ++ [d]) dp m fp F fv fr cv ca ∧ OwR Γ w (w'.setCell ⟨Γ.wb, 0, none⟩ v') := by
  have hd : ∀ g, dv.ownBlock = some g → ∃ cur, w.heap[g]? = some (.cells cur 265 (0, 0)) := fun g hg => by
    rcases h.dfs.2 with ⟨rfl, -⟩ | ⟨g', cap, cur, rfl, -, h6, -⟩
    · simp [Value.ownBlock] at hg
    · simp [Value.ownBlock] at hg
      subst hg
      exact ⟨cur, h6⟩
  have hk : ∀ k, k < w.heap.size → (∀ cur fr', w.heap[k]? ≠ some (.cells cur 265 fr')) → w'.heap[k]? = w.heap[k]? := fun k hk hn => hg.block k hk fun e => by
    obtain ⟨cur, hc⟩ := hd k e.symm
    exact hn _ _ hc
  have hk2 : ∀ k, k < w.heap.size → (∀ cur fr', w.heap[k]? ≠ some (.cells cur 265 fr')) → k ≠ Γ.wb → (w'.setCell ⟨Γ.wb, 0, none⟩ v').heap[k]? = w.heap[k]? := fun k h1 h2 h3 => (Below.heap_setCell _ _ _ _ h3).trans (hk k h1 h2)
  have hwb : w'.heap[Γ.wb]? = some (.cells #[dv, .int .i64 dp, .int .i64 m, .pointer fp, .bool Γ.all, fv, cv] 129 (0, 0)) := (hk _ h.lt (fun cur fr' e => by rw [h.blk] at e; cases e)).trans h.blk
  have hno : ∀ {g : Nat} {cur : Array Value} {t : TypeId} {q : Nat × Nat}, w.heap[g]? = some (.cells cur t q) → t ≠ 265 → ∀ cur' fr', w.heap[g]? ≠ some (.cells cur' 265 fr') := fun hg ht cur' fr' e => by
    rw [hg] at e
    cases e
    exact ht rfl
  refine ⟨⟨by simp [World.setCell, Array.getElem?_modify, hwb], ?_, ?_, ?_, ?_, h.low⟩, ⟨hg.os, hg.tape, hg.output, by simpa [World.setCell] using hg.size, fun k hk1 hn hd' => ?_⟩⟩
  · rw [List.length_append, defCs_snoc]
    refine own_other hown fun g cur hg' => Below.heap_setCell _ _ _ _ ?_
    rintro rfl
    rw [hwb] at hg'
    cases hg'
  · have h1 := h.flt
    cases F with
    | none => exact h1
    | some x =>
      obtain ⟨c, n, p⟩ := x
      obtain ⟨b, h2, h3⟩ := h1
      exact ⟨b, h2, (hk2 b (Array.getElem?_eq_some_iff.1 h3).1 (hno h3 (by decide)) (h.ne h3 (by decide))).trans h3⟩
  · exact own_other h.fre fun g cur hg' => hk2 g (Array.getElem?_eq_some_iff.1 hg').1 (hno hg' (by decide)) (h.ne hg' (by decide))
  · exact own_other h.cal fun g cur hg' => hk2 g (Array.getElem?_eq_some_iff.1 hg').1 (hno hg' (by decide)) (h.ne hg' (by decide))
  · rcases hd' with h1 | h1
    · refine (Below.heap_setCell _ _ _ _ hn).trans (hg.block k hk1 fun e => ?_)
      have := (h.dfs.lt k e.symm).1
      omega
    · exact hk2 k hk1 h1 hn
theorem RB.cut (h : RB Γ w dv D dp m fp F fv fr cv ca) {n : Nat} (hn : n ≤ D.length) : ∃ a c, dv = .slice a D.length c ∧ D.length ≤ c ∧ RB Γ (w.setCell ⟨Γ.wb, 0, none⟩ (.slice a n c)) (.slice a n c) (D.take n) dp m fp F fv fr cv ca := by
  have hl : (D.take n).length = n := by rw [List.length_take]; omega
  rcases h.dfs.2 with ⟨e1, e2⟩ | ⟨g, cap, cur, e1, e2, e3, e4, e5, e6, e7⟩
  · have h0 : n = 0 := by omega
    subst h0
    have hD : D = [] := List.length_eq_zero_iff.1 e2
    subst hD
    exact ⟨none, 0, e1, Nat.le_refl _, ⟨by simp [World.setCell, Array.getElem?_modify, h.blk], World.ownsRow_nil _ _ _ _, h.fltK (h.same _ _), h.freK (h.same _ _), h.calK (h.same _ _), h.low⟩⟩
  · refine ⟨some ⟨g, 0, none⟩, cap, e1, e4, ⟨by simp [World.setCell, Array.getElem?_modify, h.blk], ⟨by rw [defCs_len], .inr ⟨g, cap, cur, by rw [hl], e2, (h.same _ _ g (Array.getElem?_eq_some_iff.1 e3).1 (h.ne e3 (by decide))).trans e3, by rw [hl]; omega, e5, e6, ?_⟩⟩, h.fltK (h.same _ _), h.freK (h.same _ _), h.calK (h.same _ _), h.low⟩⟩
    rw [hl, defCs_take, ← e7, List.take_take, Nat.min_eq_left (by omega)]
end
set_option maxHeartbeats 4000000 in
set_option maxRecDepth 100000 in
theorem rleave_any (Γ : RCtx) (w : World) (D : List DefR) (dp m : Nat) (F : FltR) (fr ca : List (List UInt8)) (hd : dp < 2 ^ 40) (h : RW Γ w D (dp + 1) m F fr ca) (n : Nat) (hn : n ≤ D.length) :
    Calls Tryz.prog 186 #[.pointer (some ⟨Γ.wb, 0, none⟩), .int .i64 n] w fun e w' => e = .returned (.tuple #[]) ∧ OwR Γ w w' ∧ RW Γ w' (D.take n) dp m F fr ca := by
  obtain ⟨dv, fp, fv, cv, h⟩ := h
  obtain ⟨-, x1, -, -, -, -, -, xf⟩ := h.cells
  have xf1 := xf 1
  have h1 := h.setDeep dp
  obtain ⟨a, c, rfl, hc, h2⟩ := h1.cut hn
  obtain ⟨y0, -, -, -, -, -, -, yf⟩ := h1.cells
  have yf0 := yf 0
  rw [show ((dp + 1 : Nat) : Int) = (dp : Int) + 1 from rfl] at x1
  have Q : IntKind.i64.wrap ((dp : Int) + 1 - 1) = (dp : Int) := by rw [IntWalk.i64_in _ (by omega)]; omega
  have HEND : Hid (OwR Γ w _ ∧ RW Γ _ (D.take n) dp m F fr ca) := Lib.hid ⟨((OwR.refl Γ w).setCell 1 (.int .i64 dp)).setCell 0 (.slice a n c), ⟨_, _, _, _, h2⟩⟩
  obtain ⟨L, hL⟩ : ∃ L, D.length = L := ⟨_, rfl⟩
  have hnc : (n : Int) ≤ c := by omega
  clear h h1 h2 xf yf
  go_enter Tryz.func186, Tryz.ntmps186
  go_wp2_with fail
  go_end0
  exact ⟨rfl, HEND.out⟩
end Go.Proofs.YtpbkeamjdolpgaaGreatDoor
namespace Go.Proofs.YtpbkeamjdolpgaaGreatDoor
open Go.RowKit Go.Lib

def dfV : Option DefR → Value
  | none => .agg #[.int .i64 0, .string ⟨#[]⟩, .int .i64 0, .int .i64 0]
  | some d => .agg #[.int .i64 d.1, .string ⟨d.2.1.toArray⟩, .int .i64 d.2.2.1, .int .i64 d.2.2.2]
theorem ret_df {R : Ending → World → Prop} {fn : Func} {p q : Tmp} (hr : fn.results = #[.cell p 265, .tmp q]) {a : Act} {w : World} {g : Nat} {v0 v1 v2 v3 v : Value} (hp : a.tmps.getD p undef = .pointer (some ⟨g, 0, none⟩)) (hq : a.tmps.getD q undef = v) (hd : a.defers = [])
    (c0 : w.cell? ⟨g, 0, none⟩ = some v0) (c1 : w.cell? ⟨g, 1, none⟩ = some v1) (c2 : w.cell? ⟨g, 2, none⟩ = some v2) (c3 : w.cell? ⟨g, 3, none⟩ = some v3) (h : R (.returned (.tuple #[.agg #[v0, v1, v2, v3], v])) w) : bodyPost Tryz.prog fn R .ret a w := by
  have hp' : a.tmps[p]?.getD undef = .pointer (some ⟨g, 0, none⟩) := by simpa using hp
  have hq' : a.tmps[q]?.getD undef = v := by simpa using hq
  exact bodyPost_ret (v := .tuple #[.agg #[v0, v1, v2, v3], v]) (by simp [results, hr, hp', hq', go_sem, c0, c1, c2, c3]) hd h
abbrev BoxD (w : World) (b : Nat) (v0 v1 v2 v3 : Value) : Prop := w.heap[b]? = some (.cells #[v0, v1, v2, v3] 265 (0, 0))
theorem BoxD.facts {w : World} {b : Nat} {v0 v1 v2 v3 : Value} (h : BoxD w b v0 v1 v2 v3) : w.cell? ⟨b, 0, none⟩ = some v0 ∧ w.cell? ⟨b, 1, none⟩ = some v1 ∧ w.cell? ⟨b, 2, none⟩ = some v2 ∧ w.cell? ⟨b, 3, none⟩ = some v3 ∧ ∀ o, w.frozen? ⟨b, o, none⟩ = false := by
  unfold BoxD at h
  refine ⟨?_, ?_, ?_, ?_, fun o => ?_⟩ <;> simp [World.cell?, World.frozen?, h]
theorem BoxD.set4 {w : World} {b : Nat} {v0 v1 v2 v3 u0 u1 u2 u3 : Value} (h : BoxD w b v0 v1 v2 v3) : BoxD ((((w.setCell ⟨b, 0, none⟩ u0).setCell ⟨b, 1, none⟩ u1).setCell ⟨b, 2, none⟩ u2).setCell ⟨b, 3, none⟩ u3) b u0 u1 u2 u3 := by
  unfold BoxD at *
  simp [World.setCell, Array.getElem?_modify, h]
theorem defCs_at : ∀ (D : List DefR) (i : Nat) (d : DefR), D[i]? = some d → ∀ q v, (defC d)[q]? = some v → (defCs D)[i * 4 + q]? = some v
  | [], _, _, h, _, _, _ => by simp at h
  | e :: r, 0, d, h, q, v, hv => by
    simp at h
    subst h
    show (defC e ++ defCs r)[0 * 4 + q]? = some v
    have hq : q < 4 := (List.getElem?_eq_some_iff.1 hv).1
    rw [List.getElem?_append_left (show 0 * 4 + q < (defC e).length by show _ < 4; omega)]
    simpa using hv
  | e :: r, i + 1, d, h, q, v, hv => by
    show (defC e ++ defCs r)[(i + 1) * 4 + q]? = some v
    have h4 : (defC e).length = 4 := rfl
    rw [List.getElem?_append_right (by rw [h4]; omega), h4, show (i + 1) * 4 + q - 4 = i * 4 + q by omega]
    exact defCs_at r i d (by simpa using h) q v hv
theorem RB.at_ {Γ : RCtx} {w : World} {dv : Value} {D : List DefR} {dp m : Nat} {fp : Option Addr} {F : FltR} {fv : Value} {fr : List (List UInt8)} {cv : Value} {ca : List (List UInt8)} (h : RB Γ w dv D dp m fp F fv fr cv ca) :
    ∃ a c, dv = .slice a D.length c ∧ ∀ i d, D[i]? = some d → ∃ g, a = some ⟨g, 0, none⟩ ∧ ∀ q v, (defC d)[q]? = some v → w.cell? ⟨g, i * 4 + q, none⟩ = some v := by
  rcases h.dfs.2 with ⟨e1, e2⟩ | ⟨g, cap, cur, e1, -⟩
  · have hl : D = [] := List.length_eq_zero_iff.1 e2
    subst hl
    exact ⟨none, 0, e1, fun i d hd => by simp at hd⟩
  · refine ⟨_, _, e1, fun i d hd => ⟨g, rfl, fun q v hv => ?_⟩⟩
    have := h.dfs.cells (g := g) (by rw [e1]; rfl) (i * 4 + q) v (defCs_at D i d hd q v hv)
    simpa [Addr.add_lit] using this
set_option maxHeartbeats 4000000 in
set_option maxRecDepth 100000 in
theorem rfind_any (Γ : RCtx) (w : World) (D : List DefR) (dp m : Nat) (F : FltR) (fr ca : List (List UInt8)) (hl : D.length < 2 ^ 40) (h : RW Γ w D dp m F fr ca) (k : Nat) (s : List UInt8) :
    Calls Tryz.prog 241 #[.pointer (some ⟨Γ.wb, 0, none⟩), .int .i64 k, .string ⟨s.toArray⟩] w fun e w' => e = .returned (.tuple #[dfV (lastD k s D), .bool (lastD k s D).isSome]) ∧ Below w.heap.size w w' := by
  obtain ⟨dv, fp, fv, cv, h⟩ := h
  obtain ⟨Z, hZ⟩ : ∃ o, o = Obj.cells #[.int .i64 0, .string ⟨#[]⟩, .int .i64 0, .int .i64 0] 265 := ⟨_, rfl⟩
  have hA : Below w.heap.size w (w.alloc Z) := (Below.refl _ _).alloc (Nat.le_refl _) _
  have hbx : BoxD (w.alloc Z) w.heap.size (.int .i64 0) (.string ⟨#[]⟩) (.int .i64 0) (.int .i64 0) := by
    have := heap_alloc_new w Z
    rw [hZ] at this
    rw [hZ]
    exact this
  obtain ⟨a, c, hdv, hat⟩ := h.at_
  have h1 := h.below hA
  obtain ⟨x0, -⟩ := h1.cells
  have hlt := h.lt
  obtain ⟨L, hL⟩ : ∃ L, D.length = L := ⟨_, rfl⟩
  have HLL := Lib.hid hL
  rw [hL] at hdv hl
  subst hdv
  have HAT : Hid (∀ i d, D[i]? = some d → ∃ g, a = some ⟨g, 0, none⟩ ∧ ∀ q v, (defC d)[q]? = some v → (w.alloc Z).cell? ⟨g, i * 4 + q, none⟩ = some v) := Lib.hid fun i d hd => by
    obtain ⟨g, h1, h2⟩ := hat i d hd
    exact ⟨g, h1, fun q v hv => (hA.cell (p := ⟨g, i * 4 + q, none⟩) (World.block_lt_of_cell? w _ (h2 q v hv))).trans (h2 q v hv)⟩
  have HA := Lib.hid hA
  have HBX := Lib.hid hbx
  have Q0 : IntKind.i64.wrap ((L : Int) - 1) = (L : Int) - 1 := IntWalk.i64_in _ (by omega)
  clear hat h h1 hA hbx hL
  subst hZ
  go_enter Tryz.func241, Tryz.ntmps241
  go_wp2_with fail
  generalize World.alloc w (.cells #[.int .i64 0, .string ⟨#[]⟩, .int .i64 0, .int .i64 0] 265) = W at HA HBX HAT x0 ⊢
  have HX0 := Lib.hid x0
  go_loopg [8] L (fun g v wx => ∃ z : Int, v = .int .i64 z ∧ z + 1 = g ∧ g ≤ L ∧ lastD k s D = lastD k s (D.take g) ∧ wx = W)
  case atStart => exact ⟨(L : Int) - 1, rfl, by omega, Nat.le_refl _, by rw [List.take_of_length_le (by rw [HLL.out]; omega)], rfl⟩
  case round =>
    obtain ⟨z, rfl, hz, hg, hR, rfl⟩ := hrel
    obtain ⟨b0, b1, b2, b3, bf⟩ := HBX.out.facts
    cases gk with
    | zero =>
      obtain rfl : z = -1 := by omega
      have hlt' : ¬ (0 : Int) ≤ -1 := by omega
      have HN : Hid (lastD k s D = none) := Lib.hid (by rw [hR]; rfl)
      clear hR
      go_wp2_with fail
      obtain ⟨y0, y1, y2, y3, -⟩ := (HBX.out.set4 (u0 := .int .i64 0) (u1 := .string ⟨#[]⟩) (u2 := .int .i64 0) (u3 := .int .i64 0)).facts
      refine ret_df rfl rfl rfl rfl y0 y1 y2 y3 ⟨by rw [HN.out]; rfl, ?_⟩
      exact (((HA.out.setCell (p := ⟨w.heap.size, 0, none⟩) (Nat.le_refl _) _).setCell (p := ⟨w.heap.size, 1, none⟩) (Nat.le_refl _) _).setCell (p := ⟨w.heap.size, 2, none⟩) (Nat.le_refl _) _).setCell (p := ⟨w.heap.size, 3, none⟩) (Nat.le_refl _) _
    | succ i =>
      obtain rfl : z = (i : Int) := by omega
      obtain ⟨d, hd⟩ : ∃ d, D[i]? = some d := ⟨D[i]'(by rw [HLL.out]; omega), List.getElem?_eq_getElem _⟩
      obtain ⟨g, rfl, hc⟩ := HAT.out i d hd
      obtain ⟨k', s', ar, de⟩ := d
      have d0 := hc 0 _ rfl
      have d1 := hc 1 _ rfl
      have d2 := hc 2 _ rfl
      have d3 := hc 3 _ rfl
      rw [Nat.add_zero] at d0
      have hge : (0 : Int) ≤ (i : Int) := by omega
      have hlt' : (i : Int) < (L : Int) := by omega
      have Qi1 : IntKind.i64.wrap ((i : Int) - 1) = (i : Int) - 1 := IntWalk.i64_in _ (by omega)
      have htk : lastD k s (D.take (i + 1)) = if k' = k ∧ s' = s then some (k', s', ar, de) else lastD k s (D.take i) := by
        rw [List.take_add_one, hd]
        exact lastD_snoc k s (k', s', ar, de) _
      rw [htk] at hR
      have HR := Lib.hid hR
      clear hc hR htk hd
      by_cases hk : k' = k
      · have Q1 : ((k' : Int) == (k : Int)) = true := by simp [hk]
        by_cases hs : s' = s
        · have Q2 : (s' == s) = true := by simp [hs]
          have HS : Hid (lastD k s D = some (k', s', ar, de)) := Lib.hid (by rw [HR.out, if_pos ⟨hk, hs⟩])
          clear HR hk hs
          go_wp2_with fail
          obtain ⟨y0, y1, y2, y3, -⟩ := (HBX.out.set4 (u0 := .int .i64 k') (u1 := .string ⟨s'.toArray⟩) (u2 := .int .i64 ar) (u3 := .int .i64 de)).facts
          refine ret_df rfl rfl rfl rfl y0 y1 y2 y3 ⟨by rw [HS.out]; rfl, ?_⟩
          exact (((HA.out.setCell (p := ⟨w.heap.size, 0, none⟩) (Nat.le_refl _) _).setCell (p := ⟨w.heap.size, 1, none⟩) (Nat.le_refl _) _).setCell (p := ⟨w.heap.size, 2, none⟩) (Nat.le_refl _) _).setCell (p := ⟨w.heap.size, 3, none⟩) (Nat.le_refl _) _
        · have Q2 : (s' == s) = false := by simp [hs]
          have HS : Hid (lastD k s D = lastD k s (D.take i)) := Lib.hid (by rw [HR.out, if_neg (fun h => hs h.2)])
          clear HR hk hs
          go_wp2_with fail
          go_roundg i
          case measure => omega
          case rel => exact ⟨(i : Int) - 1, rfl, by omega, by omega, HS.out, rfl⟩
      · have Q1 : ((k' : Int) == (k : Int)) = false := beq_eq_false_iff_ne.2 (by omega)
        have HS : Hid (lastD k s D = lastD k s (D.take i)) := Lib.hid (by rw [HR.out, if_neg (fun h => hk h.1)])
        clear HR hk
        go_wp2_with fail
        go_roundg i
        case measure => omega
        case rel => exact ⟨(i : Int) - 1, rfl, by omega, by omega, HS.out, rfl⟩
end Go.Proofs.YtpbkeamjdolpgaaGreatDoor
namespace Go.Proofs.YtpbkeamjdolpgaaGreatDoor
open Go.RowKit Go.Lib

def ownD : Option DefR → Nat → Bool
  | none, _ => false
  | some d, dp => decide (d.2.2.2 = dp)
set_option maxHeartbeats 4000000 in
set_option maxRecDepth 100000 in
theorem rown_any (Γ : RCtx) (w : World) (D : List DefR) (dp m : Nat) (F : FltR) (fr ca : List (List UInt8)) (hl : D.length < 2 ^ 40) (h : RW Γ w D dp m F fr ca) (k : Nat) (s : List UInt8) :
    Calls Tryz.prog 222 #[.pointer (some ⟨Γ.wb, 0, none⟩), .int .i64 k, .string ⟨s.toArray⟩] w fun e w' => e = .returned (.bool (ownD (lastD k s D) dp)) ∧ Below w.heap.size w w' := by
  have c0 := rfind_any Γ w D dp m F fr ca hl h k s
  obtain ⟨X, hX⟩ : ∃ X, lastD k s D = X := ⟨_, rfl⟩
  rw [hX] at c0 ⊢
  have H := Lib.hid h
  clear h hX
  go_enter Tryz.func222, Tryz.ntmps222
  go_wp2_with fail
  refine c0.mono ?_
  clear c0
  rintro e w1 ⟨rfl, hb1⟩
  have HB1 := Lib.hid hb1
  clear hb1
  cases X with
  | none =>
    have hA : Below w1.heap.size w1 (w1.alloc (.cells #[.int .i64 0, .string ⟨#[]⟩, .int .i64 0, .int .i64 0] 265)) := (Below.refl _ _).alloc (Nat.le_refl _) _
    have HA := Lib.hid (HB1.out.trans (hA.mono HB1.out.size))
    clear hA
    rw [show dfV none = .agg #[.int .i64 0, .string ⟨#[]⟩, .int .i64 0, .int .i64 0] from rfl, show (none : Option DefR).isSome = false from rfl]
    go_wp2_with fail
    go_quiet (fail)
    go_wp2_with fail
    go_ret
    exact ⟨rfl, bdn HA.out _⟩
  | some d =>
    obtain ⟨k', s', ar, de⟩ := d
    obtain ⟨O, hO⟩ : ∃ o, o = Obj.cells #[.int .i64 k', .string ⟨s'.toArray⟩, .int .i64 ar, .int .i64 de] 265 := ⟨_, rfl⟩
    have hA : Below w1.heap.size w1 (w1.alloc O) := (Below.refl _ _).alloc (Nat.le_refl _) _
    have hbx : BoxD (w1.alloc O) w1.heap.size (.int .i64 k') (.string ⟨s'.toArray⟩) (.int .i64 ar) (.int .i64 de) := by
      have := heap_alloc_new w1 O
      rw [hO] at this
      rw [hO]
      exact this
    obtain ⟨dv, fp, fv, cv, h⟩ := H.out
    obtain ⟨-, x1, -⟩ := (h.below (HB1.out.trans (hA.mono HB1.out.size))).cells
    obtain ⟨-, -, -, b3, -⟩ := hbx.facts
    have HA := Lib.hid (HB1.out.trans (hA.mono HB1.out.size))
    clear hA hbx h
    subst hO
    rw [show dfV (some (k', s', ar, de)) = .agg #[.int .i64 k', .string ⟨s'.toArray⟩, .int .i64 ar, .int .i64 de] from rfl, show (some (k', s', ar, de)).isSome = true from rfl]
    have hq : ownD (some (k', s', ar, de)) dp = ((de : Int) == (dp : Int)) := by
      show decide (de = dp) = _
      by_cases h : de = dp
      · simp [h]
      · rw [decide_eq_false h]
        exact (beq_eq_false_iff_ne.2 (by omega)).symm
    have HQ := Lib.hid hq
    clear hq
    go_wp2_with fail
    go_quiet (fail)
    go_wp2_with fail
    go_ret
    rw [HQ.out]
    exact ⟨rfl, bdn HA.out _⟩
set_option maxHeartbeats 4000000 in
set_option maxRecDepth 100000 in
theorem rdefine_any (Γ : RCtx) (w : World) (D : List DefR) (dp m : Nat) (F : FltR) (fr ca : List (List UInt8)) (hl : D.length < 2 ^ 40) (h : RW Γ w D dp m F fr ca) (hB : Γ.B ≤ w.heap.size) (k : Nat) (s : List UInt8) (ar : Nat) :
    Calls Tryz.prog 225 #[.pointer (some ⟨Γ.wb, 0, none⟩), .int .i64 k, .string ⟨s.toArray⟩, .int .i64 ar] w fun e w' => e = .returned (.tuple #[]) ∧ OwR Γ w w' ∧ RW Γ w' (D ++ [(k, s, ar, dp)]) dp m F fr ca := by
  obtain ⟨dv, fp, fv, cv, h⟩ := h
  obtain ⟨i0, hi, hz0, hzs1, hz2⟩ := info_parts Tryz.infoDef
  obtain ⟨x0, x1, -⟩ := h.cells
  have HD : Hid (Below w.heap.size w w.drew) := Lib.hid (Below.refl _ _).drew
  have HX1 : Hid (∀ o, Below w.heap.size w (w.alloc o).drew) := Lib.hid fun o => ((Below.refl _ _).alloc (Nat.le_refl _) _).drew
  have HX2 : Hid (∀ o, Below w.heap.size w (w.drew.alloc o)) := Lib.hid fun o => (Below.refl _ _).drew.alloc (Nat.le_refl _) _
  have HS : Hid (∀ w', Below w.heap.size w w' → w'.cell? ⟨Γ.wb, 0, none⟩ = some dv ∧ w'.cell? ⟨Γ.wb, 1, none⟩ = some (.int .i64 dp)) := Lib.hid fun w' hb => ⟨(h.below hb).cells.1, (h.below hb).cells.2.1⟩
  have HOWN : Hid (∀ W, Below w.heap.size w W → W.ownsRow Γ.B 265 4 dv D.length (defCs D)) := Lib.hid fun W hb => (h.below hb).dfs
  have HGR : Hid (∀ W w6 v', Below w.heap.size w W → W.grownBy w6 dv.ownBlock → w6.ownsRow Γ.B 265 4 v' (D.length + 1) (defCs D ++ [.int .i64 k, .string ⟨s.toArray⟩, .int .i64 ar, .int .i64 dp]) →
      (w6.cell? ⟨Γ.wb, 0, none⟩ = some dv ∧ w6.frozen? ⟨Γ.wb, 0, none⟩ = false) ∧ OwR Γ w (w6.setCell ⟨Γ.wb, 0, none⟩ v') ∧ RW Γ (w6.setCell ⟨Γ.wb, 0, none⟩ v') (D ++ [(k, s, ar, dp)]) dp m F fr ca) := Lib.hid fun W w6 v' hb hg ho => by
    obtain ⟨r1, r2⟩ := (h.below hb).grown (d := (k, s, ar, dp)) hg ho
    have hwb : w6.heap[Γ.wb]? = some (.cells #[dv, .int .i64 dp, .int .i64 m, .pointer fp, .bool Γ.all, fv, cv] 129 (0, 0)) := by
      refine (hg.block _ (h.below hb).lt fun e => ?_).trans (h.below hb).blk
      rcases (h.below hb).dfs.2 with ⟨rfl, -⟩ | ⟨g, cap, cur, rfl, -, h6, -⟩
      · simp [Value.ownBlock] at e
      · simp [Value.ownBlock] at e
        exact (h.below hb).ne h6 (by decide) e.symm
    exact ⟨⟨by simp [World.cell?, hwb], by simp [World.frozen?, hwb]⟩, (OwR.of_below hb).trans r2, ⟨_, _, _, _, r1⟩⟩
  have hn1 : ∀ j u, ([.int .i64 k, .string ⟨s.toArray⟩, .int .i64 ar, .int .i64 dp] : List Value)[j]? = some u → (w.alloc (.cells #[.int .i64 k, .string ⟨s.toArray⟩, .int .i64 ar, .int .i64 dp] 265)).drew.cell? ((⟨w.heap.size, 0, none⟩ : Addr).add j) = some u := cell_four_new w _ _ _ _ _
  have hn2 : ∀ j u, ([.int .i64 k, .string ⟨s.toArray⟩, .int .i64 ar, .int .i64 dp] : List Value)[j]? = some u → (w.drew.alloc (.cells #[.int .i64 k, .string ⟨s.toArray⟩, .int .i64 ar, .int .i64 dp] 265)).cell? ((⟨w.heap.size, 0, none⟩ : Addr).add j) = some u := cell_four_new w.drew _ _ _ _ _
  have hz1 : ∀ u ∈ ([.int .i64 k, .string ⟨s.toArray⟩, .int .i64 ar, .int .i64 dp] : List Value), u.oneCell' = true := fun x hx => by simp at hx; rcases hx with rfl | rfl | rfl | rfl <;> rfl
  have HN1 := Lib.hid hn1
  have HN2 := Lib.hid hn2
  have HZ1 := Lib.hid hz1
  have hB2 : Γ.B ≤ w.heap.size + 1 := by omega
  have hm1 : D.length + 1 ≤ maxLen := by unfold maxLen; omega
  have hm2 : (D.length + 1) * 40 ≤ 140737488355328 := by omega
  clear h hn1 hn2 x0 x1 hB hl
  go_enter Tryz.func225, Tryz.ntmps225
  obtain ⟨a00, a01⟩ := HS.out _ HD.out
  obtain ⟨a10, a11⟩ := HS.out _ (HX1.out (.cells #[.int .i64 k, .string ⟨s.toArray⟩, .int .i64 ar, .int .i64 dp] 265))
  obtain ⟨a20, a21⟩ := HS.out _ (HX2.out (.cells #[.int .i64 k, .string ⟨s.toArray⟩, .int .i64 ar, .int .i64 dp] 265))
  go_region_law
    (first
      | (refine step_append_lies _ rfl (.tmp 12) (.tmp 21) 127 rfl Γ.B 265 i0 (.agg #[.int .i64 0, .string ⟨#[]⟩, .int .i64 0, .int .i64 0]) 4 40 Tryz.underlying127 hi hz0 hzs1 hz2 rfl (by decide) dv D.length (defCs D) (by simp [Act.eval]) (HOWN.out _ (HX1.out _)) ⟨w.heap.size, 0, none⟩ 1 1 [.int .i64 k, .string ⟨s.toArray⟩, .int .i64 ar, .int .i64 dp] (by simp [Act.eval]) rfl HN1.out HZ1.out (by omega) hm1 hm2 (by simpa using hB2) _ rfl ?_; intro g cap w6 hown' hgrow hat hlt; obtain ⟨⟨t0, tf⟩, hend⟩ := HGR.out _ _ _ (HX1.out _) hgrow hown'; have HEND := Lib.hid hend; clear hend hown' hgrow hat hlt)
      | (refine step_append_lies _ rfl (.tmp 12) (.tmp 21) 127 rfl Γ.B 265 i0 (.agg #[.int .i64 0, .string ⟨#[]⟩, .int .i64 0, .int .i64 0]) 4 40 Tryz.underlying127 hi hz0 hzs1 hz2 rfl (by decide) dv D.length (defCs D) (by simp [Act.eval, Act.put]) (HOWN.out _ (HX2.out _)) ⟨w.heap.size, 0, none⟩ 1 1 [.int .i64 k, .string ⟨s.toArray⟩, .int .i64 ar, .int .i64 dp] (by simp [Act.eval, Act.put]) rfl HN2.out HZ1.out (by omega) hm1 hm2 (by simpa using hB2) _ rfl ?_; intro g cap w6 hown' hgrow hat hlt; obtain ⟨⟨t0, tf⟩, hend⟩ := HGR.out _ _ _ (HX2.out _) hgrow hown'; have HEND := Lib.hid hend; clear hend hown' hgrow hat hlt))
  all_goals (go_end0; exact ⟨rfl, HEND.out⟩)
end Go.Proofs.YtpbkeamjdolpgaaGreatDoor
namespace Go.Proofs.YtpbkeamjdolpgaaGreatDoor
open Go.RowKit Go.Lib

def argI : Option Nat → Int
  | none => -1
  | some a => a
set_option maxHeartbeats 4000000 in
set_option maxRecDepth 100000 in
theorem rbuiltin1 (s : List UInt8) (w : World) : Calls Tryz.prog 244 #[.int .i64 1, .string ⟨s.toArray⟩] w fun e w' => e = .returned (.tuple #[.int .i64 (argI (fnB s)), .bool false]) ∧ w = w' := by
  by_cases n0 : s = [108, 101, 110]
  · subst n0
    have HF : Hid (((fnB [108, 101, 110])) = some 1) := rfl
    go_enter Tryz.func244, Tryz.ntmps244
    go_wp2_with fail
    go_ret2
    rw [HF.out]
    exact ⟨rfl, rfl⟩
  by_cases n1 : s = [97, 98, 115]
  · subst n1
    have HF : Hid (((fnB [97, 98, 115])) = some 1) := rfl
    go_enter Tryz.func244, Tryz.ntmps244
    go_wp2_with fail
    go_ret2
    rw [HF.out]
    exact ⟨rfl, rfl⟩
  by_cases n2 : s = [102, 108, 111, 111, 114]
  · subst n2
    have HF : Hid (((fnB [102, 108, 111, 111, 114])) = some 1) := rfl
    go_enter Tryz.func244, Tryz.ntmps244
    go_wp2_with fail
    go_ret2
    rw [HF.out]
    exact ⟨rfl, rfl⟩
  by_cases n3 : s = [109, 105, 110]
  · subst n3
    have HF : Hid (((fnB [109, 105, 110])) = some 1) := rfl
    go_enter Tryz.func244, Tryz.ntmps244
    go_wp2_with fail
    go_ret2
    rw [HF.out]
    exact ⟨rfl, rfl⟩
  by_cases n4 : s = [109, 97, 120]
  · subst n4
    have HF : Hid (((fnB [109, 97, 120])) = some 1) := rfl
    go_enter Tryz.func244, Tryz.ntmps244
    go_wp2_with fail
    go_ret2
    rw [HF.out]
    exact ⟨rfl, rfl⟩
  by_cases n5 : s = [114, 97, 110, 103, 101]
  · subst n5
    have HF : Hid (((fnB [114, 97, 110, 103, 101])) = some 2) := rfl
    go_enter Tryz.func244, Tryz.ntmps244
    go_wp2_with fail
    go_ret2
    rw [HF.out]
    exact ⟨rfl, rfl⟩
  have HF : Hid (fnB s = none) := Lib.hid (by unfold fnB fn1 fn2; simp [n0, n1, n2, n3, n4, n5])
  have q0 : (s == [108, 101, 110]) = false := by simp [n0]
  have q1 : (s == [97, 98, 115]) = false := by simp [n1]
  have q2 : (s == [102, 108, 111, 111, 114]) = false := by simp [n2]
  have q3 : (s == [109, 105, 110]) = false := by simp [n3]
  have q4 : (s == [109, 97, 120]) = false := by simp [n4]
  have q5 : (s == [114, 97, 110, 103, 101]) = false := by simp [n5]
  clear n0 n1 n2 n3 n4 n5
  go_enter Tryz.func244, Tryz.ntmps244
  go_wp2_with fail
  go_ret2
  rw [HF.out]
  exact ⟨rfl, rfl⟩
set_option maxHeartbeats 4000000 in
set_option maxRecDepth 100000 in
theorem rbuiltin2 (s : List UInt8) (w : World) : Calls Tryz.prog 244 #[.int .i64 2, .string ⟨s.toArray⟩] w fun e w' => e = .returned (.tuple #[.int .i64 (argI ((mdB s).map (·.1))), .bool (((mdB s).map (·.2)).getD false)]) ∧ w = w' := by
  by_cases n0 : s = [101, 109, 112, 116, 121]
  · subst n0
    have HF : Hid ((((mdB [101, 109, 112, 116, 121]).map (·.1))) = some 0 ∧ (((mdB [101, 109, 112, 116, 121]).map (·.2)).getD false) = false) := ⟨rfl, rfl⟩
    go_enter Tryz.func244, Tryz.ntmps244
    go_wp2_with fail
    go_ret2
    rw [HF.out.1, HF.out.2]
    exact ⟨rfl, rfl⟩
  by_cases n1 : s = [102, 117, 108, 108]
  · subst n1
    have HF : Hid ((((mdB [102, 117, 108, 108]).map (·.1))) = some 0 ∧ (((mdB [102, 117, 108, 108]).map (·.2)).getD false) = false) := ⟨rfl, rfl⟩
    go_enter Tryz.func244, Tryz.ntmps244
    go_wp2_with fail
    go_ret2
    rw [HF.out.1, HF.out.2]
    exact ⟨rfl, rfl⟩
  by_cases n2 : s = [99, 104, 105, 108, 100, 114, 101, 110]
  · subst n2
    have HF : Hid ((((mdB [99, 104, 105, 108, 100, 114, 101, 110]).map (·.1))) = some 0 ∧ (((mdB [99, 104, 105, 108, 100, 114, 101, 110]).map (·.2)).getD false) = false) := ⟨rfl, rfl⟩
    go_enter Tryz.func244, Tryz.ntmps244
    go_wp2_with fail
    go_ret2
    rw [HF.out.1, HF.out.2]
    exact ⟨rfl, rfl⟩
  by_cases n3 : s = [100, 111, 116, 115]
  · subst n3
    have HF : Hid ((((mdB [100, 111, 116, 115]).map (·.1))) = some 1 ∧ (((mdB [100, 111, 116, 115]).map (·.2)).getD false) = false) := ⟨rfl, rfl⟩
    go_enter Tryz.func244, Tryz.ntmps244
    go_wp2_with fail
    go_ret2
    rw [HF.out.1, HF.out.2]
    exact ⟨rfl, rfl⟩
  by_cases n4 : s = [104, 97, 108, 102]
  · subst n4
    have HF : Hid ((((mdB [104, 97, 108, 102]).map (·.1))) = some 2 ∧ (((mdB [104, 97, 108, 102]).map (·.2)).getD false) = false) := ⟨rfl, rfl⟩
    go_enter Tryz.func244, Tryz.ntmps244
    go_wp2_with fail
    go_ret2
    rw [HF.out.1, HF.out.2]
    exact ⟨rfl, rfl⟩
  by_cases n5 : s = [98, 111, 120]
  · subst n5
    have HF : Hid ((((mdB [98, 111, 120]).map (·.1))) = some 2 ∧ (((mdB [98, 111, 120]).map (·.2)).getD false) = false) := ⟨rfl, rfl⟩
    go_enter Tryz.func244, Tryz.ntmps244
    go_wp2_with fail
    go_ret2
    rw [HF.out.1, HF.out.2]
    exact ⟨rfl, rfl⟩
  by_cases n6 : s = [100, 105, 97, 109, 111, 110, 100]
  · subst n6
    have HF : Hid ((((mdB [100, 105, 97, 109, 111, 110, 100]).map (·.1))) = some 2 ∧ (((mdB [100, 105, 97, 109, 111, 110, 100]).map (·.2)).getD false) = false) := ⟨rfl, rfl⟩
    go_enter Tryz.func244, Tryz.ntmps244
    go_wp2_with fail
    go_ret2
    rw [HF.out.1, HF.out.2]
    exact ⟨rfl, rfl⟩
  by_cases n7 : s = [117, 110, 105, 111, 110]
  · subst n7
    have HF : Hid ((((mdB [117, 110, 105, 111, 110]).map (·.1))) = some 0 ∧ (((mdB [117, 110, 105, 111, 110]).map (·.2)).getD false) = true) := ⟨rfl, rfl⟩
    go_enter Tryz.func244, Tryz.ntmps244
    go_wp2_with fail
    go_ret2
    rw [HF.out.1, HF.out.2]
    exact ⟨rfl, rfl⟩
  by_cases n8 : s = [105, 110, 116, 101, 114, 115, 101, 99, 116, 105, 111, 110]
  · subst n8
    have HF : Hid ((((mdB [105, 110, 116, 101, 114, 115, 101, 99, 116, 105, 111, 110]).map (·.1))) = some 0 ∧ (((mdB [105, 110, 116, 101, 114, 115, 101, 99, 116, 105, 111, 110]).map (·.2)).getD false) = true) := ⟨rfl, rfl⟩
    go_enter Tryz.func244, Tryz.ntmps244
    go_wp2_with fail
    go_ret2
    rw [HF.out.1, HF.out.2]
    exact ⟨rfl, rfl⟩
  by_cases n9 : s = [100, 105, 102, 102, 101, 114, 101, 110, 99, 101]
  · subst n9
    have HF : Hid ((((mdB [100, 105, 102, 102, 101, 114, 101, 110, 99, 101]).map (·.1))) = some 0 ∧ (((mdB [100, 105, 102, 102, 101, 114, 101, 110, 99, 101]).map (·.2)).getD false) = true) := ⟨rfl, rfl⟩
    go_enter Tryz.func244, Tryz.ntmps244
    go_wp2_with fail
    go_ret2
    rw [HF.out.1, HF.out.2]
    exact ⟨rfl, rfl⟩
  by_cases n10 : s = [120, 111, 114]
  · subst n10
    have HF : Hid ((((mdB [120, 111, 114]).map (·.1))) = some 0 ∧ (((mdB [120, 111, 114]).map (·.2)).getD false) = true) := ⟨rfl, rfl⟩
    go_enter Tryz.func244, Tryz.ntmps244
    go_wp2_with fail
    go_ret2
    rw [HF.out.1, HF.out.2]
    exact ⟨rfl, rfl⟩
  by_cases n11 : s = [104, 117, 108, 108]
  · subst n11
    have HF : Hid ((((mdB [104, 117, 108, 108]).map (·.1))) = some 0 ∧ (((mdB [104, 117, 108, 108]).map (·.2)).getD false) = true) := ⟨rfl, rfl⟩
    go_enter Tryz.func244, Tryz.ntmps244
    go_wp2_with fail
    go_ret2
    rw [HF.out.1, HF.out.2]
    exact ⟨rfl, rfl⟩
  by_cases n12 : s = [109, 105, 110, 107, 111, 119, 115, 107, 105]
  · subst n12
    have HF : Hid ((((mdB [109, 105, 110, 107, 111, 119, 115, 107, 105]).map (·.1))) = some 0 ∧ (((mdB [109, 105, 110, 107, 111, 119, 115, 107, 105]).map (·.2)).getD false) = true) := ⟨rfl, rfl⟩
    go_enter Tryz.func244, Tryz.ntmps244
    go_wp2_with fail
    go_ret2
    rw [HF.out.1, HF.out.2]
    exact ⟨rfl, rfl⟩
  by_cases n13 : s = [99, 111, 109, 112, 108, 101, 109, 101, 110, 116]
  · subst n13
    have HF : Hid ((((mdB [99, 111, 109, 112, 108, 101, 109, 101, 110, 116]).map (·.1))) = some 0 ∧ (((mdB [99, 111, 109, 112, 108, 101, 109, 101, 110, 116]).map (·.2)).getD false) = true) := ⟨rfl, rfl⟩
    go_enter Tryz.func244, Tryz.ntmps244
    go_wp2_with fail
    go_ret2
    rw [HF.out.1, HF.out.2]
    exact ⟨rfl, rfl⟩
  by_cases n14 : s = [105, 110, 116, 101, 114, 105, 111, 114]
  · subst n14
    have HF : Hid ((((mdB [105, 110, 116, 101, 114, 105, 111, 114]).map (·.1))) = some 0 ∧ (((mdB [105, 110, 116, 101, 114, 105, 111, 114]).map (·.2)).getD false) = true) := ⟨rfl, rfl⟩
    go_enter Tryz.func244, Tryz.ntmps244
    go_wp2_with fail
    go_ret2
    rw [HF.out.1, HF.out.2]
    exact ⟨rfl, rfl⟩
  by_cases n15 : s = [99, 108, 111, 115, 117, 114, 101]
  · subst n15
    have HF : Hid ((((mdB [99, 108, 111, 115, 117, 114, 101]).map (·.1))) = some 0 ∧ (((mdB [99, 108, 111, 115, 117, 114, 101]).map (·.2)).getD false) = true) := ⟨rfl, rfl⟩
    go_enter Tryz.func244, Tryz.ntmps244
    go_wp2_with fail
    go_ret2
    rw [HF.out.1, HF.out.2]
    exact ⟨rfl, rfl⟩
  by_cases n16 : s = [98, 111, 117, 110, 100, 97, 114, 121]
  · subst n16
    have HF : Hid ((((mdB [98, 111, 117, 110, 100, 97, 114, 121]).map (·.1))) = some 0 ∧ (((mdB [98, 111, 117, 110, 100, 97, 114, 121]).map (·.2)).getD false) = true) := ⟨rfl, rfl⟩
    go_enter Tryz.func244, Tryz.ntmps244
    go_wp2_with fail
    go_ret2
    rw [HF.out.1, HF.out.2]
    exact ⟨rfl, rfl⟩
  by_cases n17 : s = [114, 101, 103, 117, 108, 97, 114]
  · subst n17
    have HF : Hid ((((mdB [114, 101, 103, 117, 108, 97, 114]).map (·.1))) = some 0 ∧ (((mdB [114, 101, 103, 117, 108, 97, 114]).map (·.2)).getD false) = true) := ⟨rfl, rfl⟩
    go_enter Tryz.func244, Tryz.ntmps244
    go_wp2_with fail
    go_ret2
    rw [HF.out.1, HF.out.2]
    exact ⟨rfl, rfl⟩
  by_cases n18 : s = [109, 111, 118, 101]
  · subst n18
    have HF : Hid ((((mdB [109, 111, 118, 101]).map (·.1))) = some 1 ∧ (((mdB [109, 111, 118, 101]).map (·.2)).getD false) = true) := ⟨rfl, rfl⟩
    go_enter Tryz.func244, Tryz.ntmps244
    go_wp2_with fail
    go_ret2
    rw [HF.out.1, HF.out.2]
    exact ⟨rfl, rfl⟩
  by_cases n19 : s = [115, 116, 114, 101, 116, 99, 104]
  · subst n19
    have HF : Hid ((((mdB [115, 116, 114, 101, 116, 99, 104]).map (·.1))) = some 1 ∧ (((mdB [115, 116, 114, 101, 116, 99, 104]).map (·.2)).getD false) = true) := ⟨rfl, rfl⟩
    go_enter Tryz.func244, Tryz.ntmps244
    go_wp2_with fail
    go_ret2
    rw [HF.out.1, HF.out.2]
    exact ⟨rfl, rfl⟩
  by_cases n20 : s = [109, 105, 114, 114, 111, 114]
  · subst n20
    have HF : Hid ((((mdB [109, 105, 114, 114, 111, 114]).map (·.1))) = some 1 ∧ (((mdB [109, 105, 114, 114, 111, 114]).map (·.2)).getD false) = true) := ⟨rfl, rfl⟩
    go_enter Tryz.func244, Tryz.ntmps244
    go_wp2_with fail
    go_ret2
    rw [HF.out.1, HF.out.2]
    exact ⟨rfl, rfl⟩
  by_cases n21 : s = [116, 117, 114, 110]
  · subst n21
    have HF : Hid ((((mdB [116, 117, 114, 110]).map (·.1))) = some 1 ∧ (((mdB [116, 117, 114, 110]).map (·.2)).getD false) = true) := ⟨rfl, rfl⟩
    go_enter Tryz.func244, Tryz.ntmps244
    go_wp2_with fail
    go_ret2
    rw [HF.out.1, HF.out.2]
    exact ⟨rfl, rfl⟩
  by_cases n22 : s = [109, 97, 112]
  · subst n22
    have HF : Hid ((((mdB [109, 97, 112]).map (·.1))) = some 1 ∧ (((mdB [109, 97, 112]).map (·.2)).getD false) = true) := ⟨rfl, rfl⟩
    go_enter Tryz.func244, Tryz.ntmps244
    go_wp2_with fail
    go_ret2
    rw [HF.out.1, HF.out.2]
    exact ⟨rfl, rfl⟩
  have hm : mdB s = none := by unfold mdB md0 md1 md2 mb0 mb1; simp [n0, n1, n2, n3, n4, n5, n6, n7, n8, n9, n10, n11, n12, n13, n14, n15, n16, n17, n18, n19, n20, n21, n22]
  have HF : Hid ((mdB s).map (·.1) = none ∧ ((mdB s).map (·.2)).getD false = false) := Lib.hid (by rw [hm]; exact ⟨rfl, rfl⟩)
  clear hm
  have q0 : (s == [101, 109, 112, 116, 121]) = false := by simp [n0]
  have q1 : (s == [102, 117, 108, 108]) = false := by simp [n1]
  have q2 : (s == [99, 104, 105, 108, 100, 114, 101, 110]) = false := by simp [n2]
  have q3 : (s == [100, 111, 116, 115]) = false := by simp [n3]
  have q4 : (s == [104, 97, 108, 102]) = false := by simp [n4]
  have q5 : (s == [98, 111, 120]) = false := by simp [n5]
  have q6 : (s == [100, 105, 97, 109, 111, 110, 100]) = false := by simp [n6]
  have q7 : (s == [117, 110, 105, 111, 110]) = false := by simp [n7]
  have q8 : (s == [105, 110, 116, 101, 114, 115, 101, 99, 116, 105, 111, 110]) = false := by simp [n8]
  have q9 : (s == [100, 105, 102, 102, 101, 114, 101, 110, 99, 101]) = false := by simp [n9]
  have q10 : (s == [120, 111, 114]) = false := by simp [n10]
  have q11 : (s == [104, 117, 108, 108]) = false := by simp [n11]
  have q12 : (s == [109, 105, 110, 107, 111, 119, 115, 107, 105]) = false := by simp [n12]
  have q13 : (s == [99, 111, 109, 112, 108, 101, 109, 101, 110, 116]) = false := by simp [n13]
  have q14 : (s == [105, 110, 116, 101, 114, 105, 111, 114]) = false := by simp [n14]
  have q15 : (s == [99, 108, 111, 115, 117, 114, 101]) = false := by simp [n15]
  have q16 : (s == [98, 111, 117, 110, 100, 97, 114, 121]) = false := by simp [n16]
  have q17 : (s == [114, 101, 103, 117, 108, 97, 114]) = false := by simp [n17]
  have q18 : (s == [109, 111, 118, 101]) = false := by simp [n18]
  have q19 : (s == [115, 116, 114, 101, 116, 99, 104]) = false := by simp [n19]
  have q20 : (s == [109, 105, 114, 114, 111, 114]) = false := by simp [n20]
  have q21 : (s == [116, 117, 114, 110]) = false := by simp [n21]
  have q22 : (s == [109, 97, 112]) = false := by simp [n22]
  clear n0 n1 n2 n3 n4 n5 n6 n7 n8 n9 n10 n11 n12 n13 n14 n15 n16 n17 n18 n19 n20 n21 n22
  go_enter Tryz.func244, Tryz.ntmps244
  go_wp2_with fail
  go_ret2
  rw [HF.out.1, HF.out.2]
  exact ⟨rfl, rfl⟩
theorem rtruth_any (s : List UInt8) (w : World) : Calls Tryz.prog 221 #[.string ⟨s.toArray⟩] w fun e w' => e = .returned (.bool (truthB s)) ∧ w = w' := by
  by_cases h1 : s = [116, 114, 117, 101]
  · subst h1
    have HT : Hid (truthB [116, 114, 117, 101] = true) := rfl
    go_enter Tryz.func221, Tryz.ntmps221
    go_wp2_with fail
    go_ret
    rw [HT.out]
    exact ⟨rfl, rfl⟩
  by_cases h2 : s = [102, 97, 108, 115, 101]
  · subst h2
    have HT : Hid (truthB [102, 97, 108, 115, 101] = true) := rfl
    go_enter Tryz.func221, Tryz.ntmps221
    go_wp2_with fail
    go_ret
    rw [HT.out]
    exact ⟨rfl, rfl⟩
  have HT : Hid (truthB s = false) := Lib.hid (by unfold truthB wTrue wFalse; simp [h1, h2])
  have q1 : (s == [116, 114, 117, 101]) = false := by simp [h1]
  have q2 : (s == [102, 97, 108, 115, 101]) = false := by simp [h2]
  clear h1 h2
  go_enter Tryz.func221, Tryz.ntmps221
  go_wp2_with fail
  go_ret
  rw [HT.out]
  exact ⟨rfl, rfl⟩
end Go.Proofs.YtpbkeamjdolpgaaGreatDoor
namespace Go.Proofs.YtpbkeamjdolpgaaGreatDoor
open Go.RowKit Go.Lib

theorem putS_at : ∀ (l : List (List UInt8)) (s : List UInt8) (k : Nat), (∀ x ∈ l.take k, x < s) → (∀ x, l[k]? = some x → ¬ x < s) → putS l s = if l[k]? = some s then l else l.take k ++ s :: l.drop k
  | [], s, k, _, _ => by simp [putS]
  | x :: r, s, 0, _, h => by
    have hx : ¬ x < s := h x rfl
    rw [putS, if_neg hx]
    by_cases e : x = s
    · rw [if_pos e, if_pos (by simp [e])]
    · rw [if_neg e, if_neg (by simpa using e)]
      rfl
  | x :: r, s, k + 1, h1, h2 => by
    have hx : x < s := h1 x (by simp)
    rw [putS, if_pos hx, putS_at r s k (fun y hy => h1 y (by simp [hy])) (fun y hy => h2 y (by simpa using hy))]
    by_cases e : r[k]? = some s
    · rw [if_pos e, if_pos (by simpa using e)]
    · rw [if_neg e, if_neg (by simpa using e)]
      rfl
theorem slice_head (a : Option Addr) (n c i : Nat) (hi : i ≤ c) (W : World) : (Instr.slice 44 (.slice a n c) none (some (.int .i64 i)) none).run Tryz.prog W = .ok (.slice a i c) W := by
  have h1 := Tryz.underlying44
  have h2 := info_parts Tryz.infoStr
  obtain ⟨i0, hi0, hz0, hz1, hz2⟩ := h2
  have hs : (sizeOf 9).run Tryz.prog W = .ok 1 W := by simp [sizeOf, typeInfo, hi0, hz1]
  cases a <;> simp [Instr.slice, Instr.sliceBounds, Instr.sliceBound, run_underlying h1, asIntOf, hi, hs, Addr.add]
theorem slice_tail (a : Option Addr) (n c i : Nat) (hi : i ≤ n) (W : World) : (Instr.slice 44 (.slice a n c) (some (.int .i64 i)) none none).run Tryz.prog W = .ok (.slice (if c = i then a else a.map (·.add i)) (n - i) (c - i)) W := by
  have h1 := Tryz.underlying44
  have h2 := info_parts Tryz.infoStr
  obtain ⟨i0, hi0, hz0, hz1, hz2⟩ := h2
  have hs : (sizeOf 9).run Tryz.prog W = .ok 1 W := by simp [sizeOf, typeInfo, hi0, hz1]
  simp [Instr.slice, Instr.sliceBounds, Instr.sliceBound, run_underlying h1, asIntOf, hi, hs]
theorem wpList_append_any {P : Program} (w : World) {ops : Array Oper} {rest : List Oper} {o : Oper} {a : Act} {Q : Exit → Act → World → Prop} (hgd : o.guard = none) (s x : Operand) (t : TypeId)
    (ho : o.op = .call { callee := .builtin .append, args := #[s, x], argTypes := #[t, t] })
    (base : Nat) (e : TypeId) (i : TypeInfo) (z : Value) (size bytes : Nat) (ht : P.underlying t = some (.slice e)) (hi : P.info? e = some i) (hz : i.zero = some z)
    (hsize : i.size = size) (hby : i.bytes = bytes) (hzs : z.cells.size = size) (hsz : 0 < size)
    (v : Value) (n : Nat) (xs : List Value) (hs : a.eval s = v) (hown : w.ownsRow base e size v n xs)
    (ao : Option Addr) (m c : Nat) (news : List Value) (hx : a.eval x = .slice ao m c) (hl : news.length = m * size) (hnews : (∃ ad, ao = some ad ∧ ∀ j u, news[j]? = some u → w.cell? (ad.add j) = some u) ∨ (ao = none ∧ m = 0)) (h1 : ∀ u ∈ news, u.oneCell' = true)
    (h63 : n + m ≤ maxLen) (hbytes : (n + m) * bytes ≤ 140737488355328) (hbase : base ≤ w.heap.size)
    (h : ∀ v' w', w'.ownsRow base e size v' (n + m) (xs ++ news) → w.grownBy w' v.ownBlock → wpList P ops Q rest (a.put o.dst v') w') : wpList P ops Q (o :: rest) a w := by
  rcases hnews with ⟨ad, rfl, hn⟩ | ⟨rfl, rfl⟩
  · exact wpList_append_own w hgd s x t ho base e i z size bytes ht hi hz hsize hby hzs hsz v n xs hs hown ad m c news hx hl hn h1 h63 hbytes hbase fun v' w' k1 k2 _ => h v' w' k1 k2
  · have hnil : news = [] := List.eq_nil_of_length_eq_zero (by simpa using hl)
    subst hnil
    obtain ⟨b, l, cc, hv, hle⟩ : ∃ b l cc, v = .slice b l cc ∧ l ≤ cc := by
      rcases hown.2 with ⟨rfl, -⟩ | ⟨g, cap, cur, rfl, -, -, h4, -⟩
      · exact ⟨none, 0, 0, rfl, Nat.le_refl _⟩
      · exact ⟨_, _, _, rfl, h4⟩
    have hr : (Builtin.append_ #[t, t] o.type #[v, .slice none 0 c]).run P w = .ok v w := by
      rw [hv]
      cases b <;> simp [Builtin.append_, run_underlying ht, sizeOf, typeInfo, hi, Builtin.lenOf, Builtin.firstCells, hle, storeCells]
    refine wpList_plain hgd fun _ hK => ?_
    unfold Oper.wp execOp
    simp only [ho, resolve, invoke, builtin, Sem.run_bind, Sem.run_pure, Result.andThen_ok, List.map_toArray, List.map_cons, List.map_nil, hs, hx, hr]
    exact hK _ _ (h v w (by simpa using hown) ⟨rfl, rfl, rfl, Nat.le_refl _, fun _ _ _ => rfl⟩)
set_option maxHeartbeats 4000000 in
set_option maxRecDepth 100000 in
theorem rput_any (l : List (List UInt8)) (s : List UInt8) (hl : l.length < 2 ^ 40) (B : Nat) (v : Value) (w : World) (hv : w.ownsRow B 9 1 v l.length (l.map encStr)) (hB : B ≤ w.heap.size) :
    Calls Tryz.prog 243 #[v, .string ⟨s.toArray⟩] w fun e w' => ∃ v', e = .returned v' ∧ w'.ownsRow B 9 1 v' (putS l s).length ((putS l s).map encStr) ∧ Below w.heap.size w w' := by
  obtain ⟨a, c, rfl, hat⟩ := names_at hv
  obtain ⟨i0, hi0, hz0, hz1, hz2⟩ := info_parts Tryz.infoStr
  have hlc : l.length ≤ c := by
    rcases hv.2 with ⟨h1, h2⟩ | ⟨g, cap, cur, h1, h2, h3, h4, -⟩
    · omega
    · simp only [Value.slice.injEq] at h1
      omega
  have haz : l ≠ [] → ∃ g, a = some ⟨g, 0, none⟩ := fun h => by
    cases l with
    | nil => exact absurd rfl h
    | cons x r =>
      obtain ⟨g, hg, -⟩ := hat 0 x rfl
      exact ⟨g, hg⟩
  obtain ⟨n, hn⟩ : ∃ n, l.length = n := ⟨_, rfl⟩
  rw [hn] at hl hlc ⊢
  have HN := Lib.hid hn
  have HV := Lib.hid hv
  have HAT := Lib.hid hat
  have HAZ := Lib.hid haz
  clear hv hat hn haz
  go_enter Tryz.func243, Tryz.ntmps243
  go_wp2_with fail
  go_loopg [5] n (fun g v wx => ∃ i : Nat, v = .int .i64 i ∧ i + g = n ∧ (∀ x ∈ l.take i, x < s) ∧ wx = w)
  case atStart => exact ⟨0, rfl, by omega, by simp, rfl⟩
  case round =>
    obtain ⟨i, rfl, hi, hlow, rfl⟩ := hrel
    have Qi1 : IntKind.i64.wrap ((i : Int) + 1) = (i : Int) + 1 := IntWalk.i64_in _ (by omega)
    have hic : i ≤ c := by omega
    have hin : i ≤ n := by omega
    -- what stands behind the loop
    have HPRE : Hid (∀ W, Below wr.heap.size wr W → (l.take i).length = i ∧ ((∃ ad, a = some ad ∧ ∀ j u, ((l.take i).map encStr)[j]? = some u → W.cell? (ad.add j) = some u) ∨ (a = none ∧ i = 0))) := Lib.hid fun W hb => by
      have h1 : (l.take i).length = i := by rw [List.length_take, HN.out]; omega
      refine ⟨h1, ?_⟩
      by_cases he : l = []
      · have hi0' : i = 0 := by rw [he] at h1; simpa using h1.symm
        subst hi0'
        cases ha : a with
        | none => exact .inr ⟨rfl, rfl⟩
        | some ad => exact .inl ⟨ad, rfl, fun j u hj => by simp at hj⟩
      · obtain ⟨g, hg⟩ := HAZ.out he
        refine .inl ⟨_, hg, fun j u hj => ?_⟩
        simp only [List.getElem?_map, Option.map_eq_some_iff] at hj
        obtain ⟨x, hx, rfl⟩ := hj
        have hji : j < i := by rw [← h1]; exact (List.getElem?_eq_some_iff.1 hx).1
        rw [List.getElem?_take_of_lt hji] at hx
        obtain ⟨g', hg', hc⟩ := HAT.out j x hx
        rw [hg] at hg'
        cases hg'
        rw [Addr.add_lit]
        simpa [encStr] using (hb.cell (p := ⟨g, j, none⟩) (World.block_lt_of_cell? wr _ hc)).trans hc
    have HSUF : Hid (∀ W, Below wr.heap.size wr W → (l.drop i).length = n - i ∧ ((∃ ad, (if c = i then a else a.map (·.add i)) = some ad ∧ ∀ j u, ((l.drop i).map encStr)[j]? = some u → W.cell? (ad.add j) = some u) ∨ ((if c = i then a else a.map (·.add i)) = none ∧ n - i = 0))) := Lib.hid fun W hb => by
      have h1 : (l.drop i).length = n - i := by rw [List.length_drop, HN.out]
      refine ⟨h1, ?_⟩
      by_cases he : n - i = 0
      · have hd : l.drop i = [] := List.length_eq_zero_iff.1 (by rw [h1, he])
        rw [hd]
        cases ha : (if c = i then a else a.map (·.add i)) with
        | none => exact .inr ⟨rfl, he⟩
        | some ad => exact .inl ⟨ad, rfl, fun j u hj => by simp at hj⟩
      · have hne : l ≠ [] := by rintro rfl; simp at h1; omega
        obtain ⟨g, hg⟩ := HAZ.out hne
        have hci : ¬ c = i := by omega
        rw [if_neg hci, hg]
        refine .inl ⟨_, rfl, fun j u hj => ?_⟩
        simp only [List.getElem?_map, Option.map_eq_some_iff] at hj
        obtain ⟨x, hx, rfl⟩ := hj
        rw [List.getElem?_drop] at hx
        obtain ⟨g', hg', hc⟩ := HAT.out (i + j) x hx
        rw [hg] at hg'
        cases hg'
        have := (hb.cell (p := ⟨g, i + j, none⟩) (World.block_lt_of_cell? wr _ hc)).trans hc
        show W.cell? (((⟨g, 0, none⟩ : Addr).add i).add j) = _
        rw [Addr.add_lit, Addr.add_lit]
        simpa [encStr] using this
    have HONE : Hid (∀ (L : List (List UInt8)), ∀ u ∈ L.map encStr, u.oneCell' = true) := Lib.hid fun L u hu => by
      obtain ⟨x, -, rfl⟩ := List.mem_map.1 hu
      rfl
    have hs1 := slice_head a n c i hic
    have hs2 := slice_tail a n c i hin
    obtain ⟨a2, ha2⟩ : ∃ z, (if c = i then a else a.map (·.add i)) = z := ⟨_, rfl⟩
    rw [ha2] at hs2 HSUF
    clear ha2
    by_cases hlt : i < n
    · obtain ⟨x, hx⟩ : ∃ x, l[i]? = some x := ⟨l[i]'(by have := HN.out; omega), List.getElem?_eq_getElem _⟩
      obtain ⟨g, hg, hc⟩ := HAT.out i x hx
      subst hg
      have hlt' : (i : Int) < (n : Int) := by omega
      by_cases hxs : x < s
      · have Q1 : Op.bytesLess x s = true := by rw [bytesLess_eq]; simpa using hxs
        have HLOW : Hid (∀ y ∈ l.take (i + 1), y < s) := Lib.hid fun y hy => by
          rw [List.take_add_one, hx] at hy
          rcases List.mem_append.1 hy with hy | hy
          · exact hlow y hy
          · simp at hy
            subst hy
            exact hxs
        clear hx hlow hxs hs1 hs2 HPRE HSUF
        go_wp2_with fail
        go_roundg (gk - 1)
        case measure => omega
        case rel => exact ⟨i + 1, rfl, by omega, HLOW.out, rfl⟩
      · have Q1 : Op.bytesLess x s = false := by rw [bytesLess_eq]; simpa using hxs
        have hput := putS_at l s i hlow (fun y hy => by rw [hx] at hy; cases hy; exact hxs)
        by_cases he : x = s
        · have Q2 : (x == s) = true := by simp [he]
          have HPUT : Hid (putS l s = l) := Lib.hid (by rw [hput, if_pos (by rw [hx, he])])
          clear hput hx hlow hxs he hs1 hs2 HPRE HSUF
          go_wp2_with fail
          go_ret
          rw [HPUT.out, HN.out]
          have := HV.out
          rw [HN.out] at this
          exact ⟨_, rfl, this, Below.refl _ _⟩
        · have Q2 : (x == s) = false := by simp [he]
          have HPUT : Hid (putS l s = l.take i ++ s :: l.drop i) := Lib.hid (by rw [hput, if_neg (by rw [hx]; simpa using he)])
          clear hput hx hlow hxs he
          go_wp2_with (first
            | (at_builtin; refine wpList_append_any _ rfl (.tmp 34) (.tmp 37) 44 rfl wr.heap.size 9 i0 (.string ⟨#[]⟩) 1 16 Tryz.underlying44 hi0 hz0 hz1 hz2 rfl (by decide) (.slice none 0 0) 0 [] rfl (World.ownsRow_nil _ _ _ _) _ i c ((l.take i).map encStr) rfl (by rw [List.length_map, (HPRE.out _ (Below.refl _ _)).1, Nat.mul_one]) (HPRE.out _ (Below.refl _ _)).2 (HONE.out _) (by unfold maxLen; omega) (by omega) (Nat.le_refl _) ?_; intro v1 w1 hown1 hg1; have hb1 : Below wr.heap.size wr w1 := (Below.refl _ _).grown hg1 (Nat.le_refl _) (fun j hj => by simp [Value.ownBlock] at hj))
            | (at_builtin; refine wpList_append_own _ rfl (.tmp 39) (.tmp 41) 44 rfl wr.heap.size 9 i0 (.string ⟨#[]⟩) 1 16 Tryz.underlying44 hi0 hz0 hz1 hz2 rfl (by decide) v1 (0 + i) _ rfl (hown1.alloc _) ⟨w1.heap.size, 0, none⟩ 1 1 [encStr s] rfl rfl (cell_one_new _ _ _) (by simp [Value.oneCell', encStr]) (by unfold maxLen; omega) (by omega) (by have := hb1.size; simp; omega) ?_; intro v2 w2 hown2 hg2 hnil2; have hb2 : Below wr.heap.size wr w2 := (hb1.alloc hb1.size _).grown hg2 (by have := hb1.size; simp; omega) (fun j hj => (hown1.lt j hj).1))
            | (at_builtin; refine wpList_append_any _ rfl (.tmp 43) (.tmp 46) 44 rfl wr.heap.size 9 i0 (.string ⟨#[]⟩) 1 16 Tryz.underlying44 hi0 hz0 hz1 hz2 rfl (by decide) v2 (0 + i + 1) _ rfl hown2 _ (n - i) (c - i) ((l.drop i).map encStr) rfl (by rw [List.length_map, (HSUF.out _ hb2).1, Nat.mul_one]) (HSUF.out _ hb2).2 (HONE.out _) (by unfold maxLen; omega) (by omega) hb2.size ?_; intro v3 w3 hown3 hg3; have hb3 : Below wr.heap.size wr w3 := hb2.grown hg3 hb2.size (fun j hj => (hown2.lt j hj).1)))
          go_ret
          rw [HPUT.out]
          refine ⟨v3, rfl, ?_, hb3⟩
          have hlen : (l.take i ++ s :: l.drop i).length = 0 + i + 1 + (n - i) := by
            rw [List.length_append, List.length_cons, (HPRE.out _ (Below.refl _ _)).1, (HSUF.out _ (Below.refl _ _)).1]
            omega
          rw [hlen]
          have hmap : (l.take i ++ s :: l.drop i).map encStr = [] ++ (l.take i).map encStr ++ [encStr s] ++ (l.drop i).map encStr := by simp
          rw [hmap]
          exact ownsRow_low hown3 hB
    · have hlt' : ¬ (i : Int) < (n : Int) := by omega
      have hnone : l[i]? = none := List.getElem?_eq_none (by have := HN.out; omega)
      have HPUT : Hid (putS l s = l.take i ++ s :: l.drop i) := Lib.hid (by rw [putS_at l s i hlow (fun y hy => by rw [hnone] at hy; cases hy), if_neg (by rw [hnone]; simp)])
      clear hlow hnone
      go_wp2_with (first
        | (at_builtin; refine wpList_append_any _ rfl (.tmp 34) (.tmp 37) 44 rfl wr.heap.size 9 i0 (.string ⟨#[]⟩) 1 16 Tryz.underlying44 hi0 hz0 hz1 hz2 rfl (by decide) (.slice none 0 0) 0 [] rfl (World.ownsRow_nil _ _ _ _) _ i c ((l.take i).map encStr) rfl (by rw [List.length_map, (HPRE.out _ (Below.refl _ _)).1, Nat.mul_one]) (HPRE.out _ (Below.refl _ _)).2 (HONE.out _) (by unfold maxLen; omega) (by omega) (Nat.le_refl _) ?_; intro v1 w1 hown1 hg1; have hb1 : Below wr.heap.size wr w1 := (Below.refl _ _).grown hg1 (Nat.le_refl _) (fun j hj => by simp [Value.ownBlock] at hj))
        | (at_builtin; refine wpList_append_own _ rfl (.tmp 39) (.tmp 41) 44 rfl wr.heap.size 9 i0 (.string ⟨#[]⟩) 1 16 Tryz.underlying44 hi0 hz0 hz1 hz2 rfl (by decide) v1 (0 + i) _ rfl (hown1.alloc _) ⟨w1.heap.size, 0, none⟩ 1 1 [encStr s] rfl rfl (cell_one_new _ _ _) (by simp [Value.oneCell', encStr]) (by unfold maxLen; omega) (by omega) (by have := hb1.size; simp; omega) ?_; intro v2 w2 hown2 hg2 hnil2; have hb2 : Below wr.heap.size wr w2 := (hb1.alloc hb1.size _).grown hg2 (by have := hb1.size; simp; omega) (fun j hj => (hown1.lt j hj).1))
        | (at_builtin; refine wpList_append_any _ rfl (.tmp 43) (.tmp 46) 44 rfl wr.heap.size 9 i0 (.string ⟨#[]⟩) 1 16 Tryz.underlying44 hi0 hz0 hz1 hz2 rfl (by decide) v2 (0 + i + 1) _ rfl hown2 _ (n - i) (c - i) ((l.drop i).map encStr) rfl (by rw [List.length_map, (HSUF.out _ hb2).1, Nat.mul_one]) (HSUF.out _ hb2).2 (HONE.out _) (by unfold maxLen; omega) (by omega) hb2.size ?_; intro v3 w3 hown3 hg3; have hb3 : Below wr.heap.size wr w3 := hb2.grown hg3 hb2.size (fun j hj => (hown2.lt j hj).1)))
      go_ret
      rw [HPUT.out]
      refine ⟨v3, rfl, ?_, hb3⟩
      have hlen : (l.take i ++ s :: l.drop i).length = 0 + i + 1 + (n - i) := by
        rw [List.length_append, List.length_cons, (HPRE.out _ (Below.refl _ _)).1, (HSUF.out _ (Below.refl _ _)).1]
        omega
      rw [hlen]
      have hmap : (l.take i ++ s :: l.drop i).map encStr = [] ++ (l.take i).map encStr ++ [encStr s] ++ (l.drop i).map encStr := by simp
      rw [hmap]
      exact ownsRow_low hown3 hB
end Go.Proofs.YtpbkeamjdolpgaaGreatDoor
namespace Go.Proofs.YtpbkeamjdolpgaaGreatDoor
open Go.RowKit Go.Lib

set_option maxHeartbeats 4000000 in
set_option maxRecDepth 100000 in
theorem rfree_any (Γ : RCtx) (w : World) (D : List DefR) (dp m : Nat) (F : FltR) (fr ca : List (List UInt8)) (hl : fr.length < 2 ^ 40) (h : RW Γ w D dp m F fr ca) (k : Int) (n : List UInt8) (y : Option Addr) (len c : Nat) (p : Int) :
    Calls Tryz.prog 242 #[.pointer (some ⟨Γ.wb, 0, none⟩), .agg #[.int .i64 k, .string ⟨n.toArray⟩, .slice y len c, .int .i64 p]] w fun e w' => e = .returned (.tuple #[]) ∧ OwR Γ w w' ∧ RW Γ w' D dp m (F.or (some (280, n, p))) (putS fr n) ca := by
  obtain ⟨dv, fp, fv, cv, h⟩ := h
  have hA : Below w.heap.size w (w.alloc (.cells #[.int .i64 k, .string ⟨n.toArray⟩, .slice y len c, .int .i64 p] 53)) := (Below.refl _ _).alloc (Nat.le_refl _) _
  have hz := World.size_alloc w (.cells #[.int .i64 k, .string ⟨n.toArray⟩, .slice y len c, .int .i64 p] 53)
  have hlt := h.lt
  have hlow := h.low
  have h1 := h.below hA
  obtain ⟨-, -, -, -, -, x5, -, xf⟩ := h1.cells
  have hbx := Box4.new w (.int .i64 k) (.string ⟨n.toArray⟩) (.slice y len c) (.int .i64 p)
  obtain ⟨z0, z1, z2, z3, zf⟩ := hbx.facts
  have HBX := Lib.hid hbx
  have H1 := Lib.hid h1
  have HO1 : Hid (OwR Γ w (w.alloc (.cells #[.int .i64 k, .string ⟨n.toArray⟩, .slice y len c, .int .i64 p] 53))) := Lib.hid ((OwR.refl Γ w).below hA)
  have hne : w.heap.size ≠ Γ.wb := by omega
  have c0 := rput_any fr n hl Γ.B fv (w.alloc (.cells #[.int .i64 k, .string ⟨n.toArray⟩, .slice y len c, .int .i64 p] 53)).drew h1.fre (by simp; omega)
  have HLTB : Hid (Γ.B ≤ w.heap.size) := Lib.hid (by omega)
  clear h hA hz h1 hbx hlt hlow
  go_enter Tryz.func242, Tryz.ntmps242
  go_upto_region 1 with (fail)
  generalize World.alloc w (.cells #[.int .i64 k, .string ⟨n.toArray⟩, .slice y len c, .int .i64 p] 53) = W1 at H1 HO1 HBX c0 x5 xf z0 z1 z2 z3 zf ⊢
  go_region_with (first | (go_at_call 243; (with_reducible refine c0.mono ?_); rintro e w2 ⟨v2, rfl, hown2, hb2⟩; obtain ⟨a2, c2, rfl, -⟩ := names_at hown2; have hb12 : Below W1.heap.size W1 w2 := ((Below.refl _ _).drew : Below W1.heap.size W1 W1.drew).trans hb2; obtain ⟨-, -, -, -, -, y5, -, yf⟩ := (H1.out.below hb12).cells; have yf5 := yf 5))
  all_goals (
    have h3 := (H1.out.below hb12).setFree hown2
    have ho3 : OwR Γ w (w2.setCell ⟨Γ.wb, 5, none⟩ (.slice a2 (putS fr n).length c2)) := (HO1.out.below hb12).setCell _ _
    have hbx3 : Box4 (w2.setCell ⟨Γ.wb, 5, none⟩ (.slice a2 (putS fr n).length c2)) w.heap.size (.int .i64 k) (.string ⟨n.toArray⟩) (.slice y len c) (.int .i64 p) := (Below.heap_setCell _ _ _ _ hne).trans ((hb12.block _ HBX.out.lt).trans HBX.out)
    have c1 := rwrong_any Γ _ D dp m F (putS fr n) ca ⟨_, _, _, _, h3⟩ k n y len c p 280
    have HO3 := Lib.hid ho3
    clear x5 xf z0 z1 z2 z3 zf y5 yf yf5 hown2 hb2 hb12 h3 ho3
    obtain ⟨z0, z1, z2, z3, -⟩ := hbx3.facts
    clear hbx3
    go_wp2_with fail
    refine c1.mono ?_
    clear c1
    rintro e w4 ⟨rfl, ho4, hr4⟩
    have HEND : Hid (OwR Γ w w4 ∧ RW Γ w4 D dp m (F.or (some (280, n, p))) (putS fr n) ca) := Lib.hid ⟨HO3.out.trans ho4, hr4⟩
    clear ho4 hr4
    go_wp2_with fail
    go_end0
    exact ⟨rfl, HEND.out⟩)
end Go.Proofs.YtpbkeamjdolpgaaGreatDoor
