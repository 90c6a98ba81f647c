/- Plain: the texts of a list, rising, each once. Plain: what stands by name, and what a walk over a tree finds. What stands by name, in memory: closures. The walks of scope's truth, with, within, and of what they make. Maps that scope makes: what takes how many arguments; names that were met. The walk of scope.rising: a map's names, in order. The walks of scope.functions and scope.modules: what is built in. What scope's walk keeps between two steps, what its methods promise; the walk of its missing. -/
import Derived.Test.YtpbkeamjdolpgaaGreatDoorB02
import Derived.Test.YtpbkeamjdolpgaaGreatDoorB03
import Derived.Laws.EntriesVeiled
import Derived.Maps.OwnOps
import Derived.Maps.OwnSet
import Derived.Maps.Views
import Derived.StringKeys
import Derived.Test.YtpbkeamjdolpgaaGreatDoorShelfS
import Derived.Shelf.Slices.In.SortNone
import Derived.Maps.RangeWalk
import Derived.Sort.KeysCollected
import Derived.Sort.OwnSorted
import Derived.Deep.Cut
import Derived.StillTailTactics
import Derived.WideShapes4
namespace Go.Proofs.YtpbkeamjdolpgaaGreatDoor
/-- Go's order of texts: a text into a rising list, once. -/
def putS : List (List UInt8) → List UInt8 → List (List UInt8)
  | [], s => [s]
  | x :: r, s => if x < s then x :: putS r s else if x = s then x :: r else s :: x :: r
/-- The texts of a list, rising, each once. -/
def risL (l : List (List UInt8)) : List (List UInt8) := l.foldl putS []
theorem lt_tri (a b : List UInt8) (h1 : ¬ a < b) (h2 : ¬ a = b) : b < a := by
  refine Decidable.byContradiction fun h3 => h2 (List.le_antisymm ?_ ?_)
  · exact h3
  · exact h1
theorem putS_mem : ∀ (l : List (List UInt8)) (s x : List UInt8), x ∈ putS l s ↔ x = s ∨ x ∈ l
  | [], s, x => by simp [putS]
  | y :: r, s, x => by
    rw [putS]
    split
    · rw [List.mem_cons, putS_mem r s x, List.mem_cons]
      constructor
      · rintro (h | h | h) <;> simp [h]
      · rintro (h | h | h) <;> simp [h]
    · split
      · next h1 h2 =>
        subst h2
        rw [List.mem_cons]
        constructor
        · exact fun h => .inr h
        · rintro (h | h)
          · exact .inl h
          · exact h
      · simp
theorem putS_rise : ∀ (l : List (List UInt8)) (s : List UInt8), l.Pairwise (· < ·) → (putS l s).Pairwise (· < ·)
  | [], s, _ => by simp [putS]
  | y :: r, s, h => by
    rw [putS]
    obtain ⟨h1, h2⟩ := List.pairwise_cons.1 h
    split
    · next hl =>
      refine List.pairwise_cons.2 ⟨fun a ha => ?_, putS_rise r s h2⟩
      rcases (putS_mem r s a).1 ha with rfl | ha
      · exact hl
      · exact h1 a ha
    · split
      · exact h
      · next hl hne =>
        have hlt := lt_tri y s hl hne
        refine List.pairwise_cons.2 ⟨fun a ha => ?_, h⟩
        rcases List.mem_cons.1 ha with rfl | ha
        · exact hlt
        · exact List.lt_trans hlt (h1 a ha)
theorem risL_snoc (l : List (List UInt8)) (s : List UInt8) : risL (l ++ [s]) = putS (risL l) s := by simp [risL]
theorem foldS : ∀ (l a : List (List UInt8)), a.Pairwise (· < ·) → (l.foldl putS a).Pairwise (· < ·) ∧ ∀ x, x ∈ l.foldl putS a ↔ x ∈ l ∨ x ∈ a
  | [], a, h => ⟨h, fun x => by simp⟩
  | s :: r, a, h => by
    obtain ⟨h1, h2⟩ := foldS r (putS a s) (putS_rise a s h)
    refine ⟨h1, fun x => ?_⟩
    rw [List.foldl_cons, h2 x, putS_mem, List.mem_cons]
    constructor
    · rintro (h | h | h) <;> simp [h]
    · rintro ((h | h) | h) <;> simp [h]
theorem risL_rise (l : List (List UInt8)) : (risL l).Pairwise (· < ·) := (foldS l [] .nil).1
theorem risL_mem (l : List (List UInt8)) (x : List UInt8) : x ∈ risL l ↔ x ∈ l := by
  rw [risL, (foldS l [] .nil).2 x]
  simp
/-- Rising lists of the same texts are one. -/
theorem rise_eq {a b : List (List UInt8)} (ha : a.Pairwise (· < ·)) (hb : b.Pairwise (· < ·)) (h : ∀ x, x ∈ a ↔ x ∈ b) : a = b := by
  have na : a.Nodup := ha.imp fun h e => by subst e; exact List.lt_irrefl _ h
  have nb : b.Nodup := hb.imp fun h e => by subst e; exact List.lt_irrefl _ h
  exact ((List.perm_ext_iff_of_nodup na nb).2 h).eq_of_pairwise (le := fun a b => a < b) (fun x y _ _ h1 h2 => (List.lt_irrefl _ (List.lt_trans h1 h2)).elim) ha hb
theorem sort_ris {ss l : List (List UInt8)} (hn : ss.Nodup) (h : ∀ x, x ∈ ss ↔ x ∈ l) : ss.mergeSort (fun x y => decide (x ≤ y)) = risL l := by
  have tr : ∀ a b c : List UInt8, decide (a ≤ b) = true → decide (b ≤ c) = true → decide (a ≤ c) = true := fun a b c h1 h2 => by simp only [decide_eq_true_eq] at *; exact List.le_trans h1 h2
  have to : ∀ a b : List UInt8, (decide (a ≤ b) || decide (b ≤ a)) = true := fun a b => by simp only [Bool.or_eq_true, decide_eq_true_eq]; exact List.le_total a b
  have hp := List.mergeSort_perm ss (fun x y => decide (x ≤ y))
  refine rise_eq ?_ (risL_rise l) fun x => by rw [hp.mem_iff, h x, risL_mem]
  have h1 := List.pairwise_mergeSort tr to ss
  have h2 : (ss.mergeSort (fun x y => decide (x ≤ y))).Pairwise (· ≠ ·) := hp.nodup_iff.2 hn
  refine (h1.and h2).imp fun {a b} hab => ?_
  obtain ⟨h3, h4⟩ := hab
  simp only [decide_eq_true_eq] at h3
  exact Decidable.byContradiction fun h5 => h4 (List.le_antisymm h3 h5)
end Go.Proofs.YtpbkeamjdolpgaaGreatDoor
namespace Go.Proofs.YtpbkeamjdolpgaaGreatDoor

/-- What stands, the latest first; none: here a block begins; kind (0: a variable, 1: a function, 2: a module), name, how many arguments. -/
abbrev Env := List (Option (Nat × List UInt8 × Nat))
/-- What stands of a kind by a name; own: in the innermost block alone. -/
def findE : Env → Nat → List UInt8 → Bool → Option Nat
  | [], _, _, _ => none
  | some (k', s', a) :: r, k, s, own => if k = k' ∧ s = s' then some a else findE r k s own
  | none :: r, k, s, own => if own then none else findE r k s false
def wTrue : List UInt8 := [116, 114, 117, 101]
def wFalse : List UInt8 := [102, 97, 108, 115, 101]
def wChildren : List UInt8 := [99, 104, 105, 108, 100, 114, 101, 110]
def truthB (s : List UInt8) : Bool := decide (s = wTrue) || decide (s = wFalse)
def fn1 : List (List UInt8) := [[108, 101, 110], [97, 98, 115], [102, 108, 111, 111, 114], [109, 105, 110], [109, 97, 120]]
def fn2 : List (List UInt8) := [[114, 97, 110, 103, 101]]
def md0 : List (List UInt8) := [[101, 109, 112, 116, 121], [102, 117, 108, 108], [99, 104, 105, 108, 100, 114, 101, 110]]
def md1 : List (List UInt8) := [[100, 111, 116, 115]]
def md2 : List (List UInt8) := [[104, 97, 108, 102], [98, 111, 120], [100, 105, 97, 109, 111, 110, 100]]
def mb0 : List (List UInt8) := [[117, 110, 105, 111, 110], [105, 110, 116, 101, 114, 115, 101, 99, 116, 105, 111, 110], [100, 105, 102, 102, 101, 114, 101, 110, 99, 101], [120, 111, 114], [104, 117, 108, 108], [109, 105, 110, 107, 111, 119, 115, 107, 105], [99, 111, 109, 112, 108, 101, 109, 101, 110, 116], [105, 110, 116, 101, 114, 105, 111, 114], [99, 108, 111, 115, 117, 114, 101], [98, 111, 117, 110, 100, 97, 114, 121], [114, 101, 103, 117, 108, 97, 114]]
def mb1 : List (List UInt8) := [[109, 111, 118, 101], [115, 116, 114, 101, 116, 99, 104], [109, 105, 114, 114, 111, 114], [116, 117, 114, 110], [109, 97, 112]]
/-- How many arguments a function takes that is built in. -/
def fnB (s : List UInt8) : Option Nat := if s ∈ fn1 then some 1 else if s ∈ fn2 then some 2 else none
/-- .. a module; whether it may take a block. -/
def mdB (s : List UInt8) : Option (Nat × Bool) :=
  if s ∈ md0 then some (0, false) else if s ∈ md1 then some (1, false) else if s ∈ md2 then some (2, false) else if s ∈ mb0 then some (0, true) else if s ∈ mb1 then some (1, true) else none
/-- What a walk finds: a name that is called; one that does not stand; something that is wrong. -/
inductive Ev where
  | call (n : List UInt8)
  | miss (n : List UInt8) (p : Int)
  | bad (c : Int) (n : List UInt8) (p : Int)
def argc : List Nd → Nat
  | [] => 0
  | .mk _ _ l _ :: _ => l.length
def bodyOf : List Nd → List Nd
  | [] => []
  | .mk _ _ l _ :: _ => l
/-- What a name alone, or a call of a function, finds. -/
def exprE (ρ : Env) (k : Int) (n : List UInt8) (kids : List Nd) (p : Int) : List Ev :=
  if k = 10 then (if (findE ρ 0 n false).isNone && !truthB n then [.miss n p] else [])
  else if k = 13 then .call n :: (match (findE ρ 1 n false).or (fnB n) with
    | none => [.miss n p]
    | some a => if argc kids = a then [] else [.bad 281 n p])
  else []
mutual
/-- .. an expression. -/
def evE (ρ : Env) : Nd → List Ev
  | .mk k n kids p => exprE ρ k n kids p ++ evEs ρ kids
def evEs (ρ : Env) : List Nd → List Ev
  | [] => []
  | x :: r => evE ρ x ++ evEs ρ r
end
/-- A name that may not be defined here. -/
def dupE (ρ : Env) (n : List UInt8) (p : Int) : List Ev := if (findE ρ 0 n true).isSome || truthB n then [.bad 280 n p] else []
def defE (ρ : Env) (k : Nat) (n : List UInt8) (p : Int) : List Ev := if (if k = 1 then (fnB n).isSome else (mdB n).isSome) || (findE ρ k n true).isSome then [.bad 280 n p] else []
/-- Parameters, one after the other; what stands behind them. -/
def parE : Env → List Nd → List Ev
  | _, [] => []
  | ρ, .mk _ n _ p :: r => dupE ρ n p ++ parE (some (0, n, 0) :: ρ) r
def parV : Env → List Nd → Env
  | ρ, [] => ρ
  | ρ, .mk _ n _ _ :: r => parV (some (0, n, 0) :: ρ) r
/-- A module's call. -/
def callE (ρ : Env) (m : Nat) (n : List UInt8) (kids : List Nd) (p : Int) : List Ev :=
  .call n :: (match ((findE ρ 2 n false).map fun a => (a, true)).or (if n = wChildren ∧ m = 0 then none else mdB n) with
    | none => [.miss n p]
    | some (a, bl) => if argc kids ≠ a ∨ (1 < kids.length ∧ bl = false) then [.bad 281 n p] else [])
/-- What stands behind a statement. -/
def envS (ρ : Env) : Nd → Env
  | .mk k n kids _ => if k = 1 then some (0, n, 0) :: ρ else if k = 2 then some (2, n, argc kids) :: ρ else if k = 3 then some (1, n, argc kids) :: ρ else ρ
mutual
/-- What a statement finds; m: how many modules' blocks are about it. -/
def evS : Nd → Env → Nat → List Ev
  | .mk k n kids p, ρ, m => if k = 1 then dupE ρ n p ++ evEs ρ kids else if k = 2 then defE ρ 2 n p ++ parE (none :: some (2, n, argc kids) :: ρ) (bodyOf kids) ++ evT kids (parV (none :: some (2, n, argc kids) :: ρ) (bodyOf kids)) (m + 1)
      else if k = 3 then defE ρ 1 n p ++ parE (none :: some (1, n, argc kids) :: ρ) (bodyOf kids) ++ evEs (parV (none :: some (1, n, argc kids) :: ρ) (bodyOf kids)) kids.tail
      else if k = 5 then (if truthB n then [.bad 280 n p] else []) ++ evEs ρ (kids.take 1) ++ evT kids (some (0, n, 0) :: ρ) m
      else if k = 6 then evEs ρ (kids.take 1) ++ evT kids ρ m
      else callE ρ m n kids p ++ evEs ρ (bodyOf kids) ++ evT kids ρ m
/-- .. what stands behind the first part: blocks. -/
def evT : List Nd → Env → Nat → List Ev
  | [], _, _ => []
  | _ :: r, ρ, m => evBs r ρ m
def evBs : List Nd → Env → Nat → List Ev
  | [], _, _ => []
  | x :: r, ρ, m => evB x ρ m ++ evBs r ρ m
def evB : Nd → Env → Nat → List Ev
  | .mk _ _ l _, ρ, m => evSs l (none :: ρ) m
/-- .. statements, one after the other. -/
def evSs : List Nd → Env → Nat → List Ev
  | [], _, _ => []
  | x :: r, ρ, m => evS x ρ m ++ evSs r (envS ρ x) m
end
/-- What a whole text finds. -/
def evX (l : List Nd) : List Ev := evSs l [none] 0
/-- The first thing that is wrong. -/
def wrongE : List Ev → Option (Int × List UInt8 × Int)
  | [] => none
  | .call _ :: r => wrongE r
  | .miss n p :: _ => some (280, n, p)
  | .bad c n p :: _ => some (c, n, p)
def missE : List Ev → List (List UInt8)
  | [] => []
  | .miss n _ :: r => n :: missE r
  | _ :: r => missE r
def calledE : List Ev → List (List UInt8)
  | [] => []
  | .call n :: r => n :: calledE r
  | _ :: r => calledE r
theorem wrongE_app (a b : List Ev) : wrongE (a ++ b) = (wrongE a).or (wrongE b) := by
  induction a with
  | nil => simp [wrongE]
  | cons x r ih => cases x <;> simp [wrongE, ih]
theorem missE_app (a b : List Ev) : missE (a ++ b) = missE a ++ missE b := by
  induction a with
  | nil => rfl
  | cons x r ih => cases x <;> simp [missE, ih]
theorem calledE_app (a b : List Ev) : calledE (a ++ b) = calledE a ++ calledE b := by
  induction a with
  | nil => rfl
  | cons x r ih => cases x <;> simp [calledE, ih]
end Go.Proofs.YtpbkeamjdolpgaaGreatDoor
namespace Go.Proofs.YtpbkeamjdolpgaaGreatDoor
open Go.RowKit Go.Lib

/-- Of what was there in w only blocks that P names may have turned. -/
structure Owp (P : Nat → Prop) (w w' : World) : Prop where
  os : w'.os = w.os
  tape : w'.tape = w.tape
  output : w'.output = w.output
  size : w.heap.size ≤ w'.heap.size
  block : ∀ k, k < w.heap.size → ¬ P k → w'.heap[k]? = w.heap[k]?
theorem Owp.refl (P : Nat → Prop) (w : World) : Owp P w w := ⟨rfl, rfl, rfl, Nat.le_refl _, fun _ _ _ => rfl⟩
theorem Owp.trans {P : Nat → Prop} {w w1 w2 : World} (h : Owp P w w1) (k : Owp P w1 w2) : Owp P w w2 :=
  ⟨k.os.trans h.os, k.tape.trans h.tape, k.output.trans h.output, Nat.le_trans h.size k.size, fun i hi hn => (k.block i (Nat.lt_of_lt_of_le hi h.size) hn).trans (h.block i hi hn)⟩
theorem Owp.of_below {P : Nat → Prop} {w w' : World} (h : Below w.heap.size w w') : Owp P w w' := ⟨h.os, h.tape, h.output, h.size, fun k hk _ => h.block k hk⟩
theorem Owp.below {P : Nat → Prop} {w w1 w2 : World} (h : Owp P w w1) (k : Below w1.heap.size w1 w2) : Owp P w w2 := h.trans (Owp.of_below k)
theorem Owp.cell {P : Nat → Prop} {w w' : World} (h : Owp P w w') {p : Addr} {v : Value} (hn : ¬ P p.block) (hc : w.cell? p = some v) : w'.cell? p = some v :=
  (World.cell?_of_block (h.block p.block (World.block_lt_of_cell? w p hc) hn)).trans hc
theorem Owp.keep {P : Nat → Prop} {w w' : World} (h : Owp P w w') {k : Nat} {o : Obj} (hn : ¬ P k) (hk : w.heap[k]? = some o) : w'.heap[k]? = some o :=
  (h.block k (Array.getElem?_eq_some_iff.1 hk).1 hn).trans hk

/-- What stands lies in memory as a closure; no block of it is one that may turn. -/
def EnvAt (w : World) (P : Nat → Prop) : Env → Value → Prop
  | [], v => v = .func (.func 135) #[] #[]
  | none :: r, v => ∃ b u, v = .func (.func 202) #[] #[.pointer (some ⟨b, 0, none⟩)] ∧ ¬ P b ∧ w.heap[b]? = some (.cells #[u] 210 (0, 0)) ∧ EnvAt w P r u
  | some (k, s, a) :: r, v => ∃ bk bs bt bn u, v = .func (.func 234) #[] #[.pointer (some ⟨bk, 0, none⟩), .pointer (some ⟨bs, 0, none⟩), .pointer (some ⟨bt, 0, none⟩), .pointer (some ⟨bn, 0, none⟩)] ∧
      (¬ P bk ∧ ¬ P bs ∧ ¬ P bt ∧ ¬ P bn) ∧ w.heap[bk]? = some (.cells #[.int .i64 k] 3 (0, 0)) ∧ w.heap[bs]? = some (.cells #[.string ⟨s.toArray⟩] 9 (0, 0)) ∧
      w.heap[bt]? = some (.cells #[.int .i64 a, .bool (decide (k = 2))] 171 (0, 0)) ∧ w.heap[bn]? = some (.cells #[u] 210 (0, 0)) ∧ EnvAt w P r u
theorem EnvAt.owp {P : Nat → Prop} {w w' : World} (ho : Owp P w w') : ∀ {ρ : Env} {v : Value}, EnvAt w P ρ v → EnvAt w' P ρ v
  | [], _, h => h
  | none :: r, _, h => by
    obtain ⟨b, u, rfl, h1, h2, h3⟩ := h
    exact ⟨b, u, rfl, h1, ho.keep h1 h2, EnvAt.owp ho h3⟩
  | some (k, s, a) :: r, _, h => by
    obtain ⟨bk, bs, bt, bn, u, rfl, ⟨n1, n2, n3, n4⟩, h1, h2, h3, h4, h5⟩ := h
    exact ⟨bk, bs, bt, bn, u, rfl, ⟨n1, n2, n3, n4⟩, ho.keep n1 h1, ho.keep n2 h2, ho.keep n3 h3, ho.keep n4 h4, EnvAt.owp ho h5⟩
theorem EnvAt.below {P : Nat → Prop} {w w' : World} {ρ : Env} {v : Value} (h : EnvAt w P ρ v) (hb : Below w.heap.size w w') : EnvAt w' P ρ v := h.owp (Owp.of_below hb)
/-- What is told of a name. -/
def tkA (ρ : Env) (k : Nat) (s : List UInt8) (own : Bool) : Nat := (findE ρ k s own).getD 0
def tkB (ρ : Env) (k : Nat) (s : List UInt8) (own : Bool) : Bool := (findE ρ k s own).isSome && decide (k = 2)
def TkEnd (ρ : Env) (k : Nat) (s : List UInt8) (own : Bool) (w : World) (e : Ending) (w' : World) : Prop :=
  e = .returned (.tuple #[.agg #[.int .i64 (tkA ρ k s own), .bool (tkB ρ k s own)], .bool (findE ρ k s own).isSome]) ∧ Below w.heap.size w w'
theorem ret_tk {R : Ending → World → Prop} {fn : Func} {p q : Tmp} (hr : fn.results = #[.cell p 171, .tmp q]) {a : Act} {w : World} {g : Nat} {v0 v1 v : Value} (hp : a.tmps.getD p undef = .pointer (some ⟨g, 0, none⟩)) (hq : a.tmps.getD q undef = v) (hd : a.defers = [])
    (c0 : w.cell? ⟨g, 0, none⟩ = some v0) (c1 : w.cell? ⟨g, 1, none⟩ = some v1) (h : R (.returned (.tuple #[.agg #[v0, v1], v])) w) : bodyPost Tryz.prog fn R .ret a w := by
  have hp' : a.tmps[p]?.getD undef = .pointer (some ⟨g, 0, none⟩) := by simpa using hp
  have hq' : a.tmps[q]?.getD undef = v := by simpa using hq
  exact bodyPost_ret (v := .tuple #[.agg #[v0, v1], v]) (by simp [results, hr, hp', hq', go_sem, c0, c1]) hd h

theorem truth_any (s : List UInt8) (w : World) : Calls Tryz.prog 203 #[.string ⟨s.toArray⟩] w fun e w' => e = .returned (.bool (truthB s)) ∧ w = w' := by
  by_cases h1 : s = wTrue
  · subst h1
    go_enter Tryz.func203, Tryz.ntmps203
    go_wp2
    go_ret
    exact ⟨rfl, rfl⟩
  · by_cases h2 : s = wFalse
    · subst h2
      go_enter Tryz.func203, Tryz.ntmps203
      go_wp2
      go_ret
      exact ⟨rfl, rfl⟩
    · have Q1 := str_ne h1
      have Q2 := str_ne h2
      have H : truthB s = false := by simp [truthB, h1, h2]
      rw [H]
      clear H h1 h2
      unfold wTrue at Q1
      unfold wFalse at Q2
      go_enter Tryz.func203, Tryz.ntmps203
      go_wp2
      go_ret
      exact ⟨rfl, rfl⟩
set_option maxHeartbeats 1000000 in
/-- What is built in at the bottom: nothing. -/
theorem none_any (k : Nat) (s : List UInt8) (own : Bool) (w : World) : Calls Tryz.prog 135 #[.int .i64 k, .string ⟨s.toArray⟩, .bool own] w (TkEnd [] k s own w) := by
  have hF : Hid (tkA [] k s own = 0 ∧ tkB [] k s own = false ∧ (findE [] k s own).isSome = false) := ⟨rfl, rfl, rfl⟩
  go_enter Tryz.func135, Tryz.ntmps135
  go_wp2
  refine ret_tk rfl rfl rfl rfl (by simp [go_sem]; rfl) (by simp [go_sem]; rfl) ⟨by rw [hF.out.1, hF.out.2.1, hF.out.2.2]; rfl, ?_⟩
  exact (Below.refl _ _).alloc (Nat.le_refl _) _
/-- A call of what stands. -/
def EnvCall (w : World) (ρ : Env) (v : Value) : Prop := ∃ F cap, v = .func (.func F) #[] cap ∧ (∀ args w, (callFunc F args).run Tryz.prog w = .ok (.enter F args) w) ∧
  ∀ (k : Nat) (s : List UInt8) (own : Bool), Calls Tryz.prog F (#[.int .i64 k, .string ⟨s.toArray⟩, .bool own] ++ cap) w (TkEnd ρ k s own w)
theorem Box2.new (w : World) (a b : Value) : (w.alloc (.cells #[a, b] 171)).heap[w.heap.size]? = some (.cells #[a, b] 171 (0, 0)) := heap_alloc_new w _
set_option maxHeartbeats 4000000 in
set_option maxRecDepth 100000 in
theorem env_any (P : Nat → Prop) : ∀ (ρ : Env) (v : Value) (w : World), EnvAt w P ρ v → EnvCall w ρ v
  | [], v, w, h => by
    obtain rfl : v = _ := h
    exact ⟨_, #[], rfl, enters_of Tryz.func135 (by kernel_rfl) rfl, fun k s own => by simpa using none_any k s own w⟩
  | none :: r, v, w, h => by
    obtain ⟨b, u, rfl, hb, h1, h2⟩ := h
    refine ⟨_, _, rfl, enters_of Tryz.func202 (by kernel_rfl) rfl, fun k s own => ?_⟩
    have hA : Below w.heap.size w (w.alloc (.cells #[.int .i64 0, .bool false] 171)) := (Below.refl _ _).alloc (Nat.le_refl _) _
    obtain ⟨F, cap, rfl, eg, hc⟩ := env_any P r u _ (h2.below hA)
    have c0 := hc k s false
    have l0 : ∀ o, (w.alloc o).cell? ⟨b, 0, none⟩ = some (.func (.func F) #[] cap) := fun o => al_cell (by simp [World.cell?, h1]) o
    have HA := Lib.hid hA
    clear hc h1 h2 hA hb
    cases own
    · have e1 : tkA (none :: r) k s false = tkA r k s false := rfl
      have e2 : tkB (none :: r) k s false = tkB r k s false := rfl
      have e3 : findE (none :: r) k s false = findE r k s false := rfl
      unfold TkEnd at c0 ⊢
      rw [e1, e2, e3]
      obtain ⟨x, hx⟩ : ∃ x, tkA r k s false = x := ⟨_, rfl⟩
      obtain ⟨y, hy⟩ : ∃ y, tkB r k s false = y := ⟨_, rfl⟩
      obtain ⟨z, hz⟩ : ∃ z, (findE r k s false).isSome = z := ⟨_, rfl⟩
      rw [hx, hy, hz] at c0 ⊢
      clear e1 e2 e3 hx hy hz
      simp only [List.append_toArray, List.cons_append, List.nil_append]
      go_enter Tryz.func202, Tryz.ntmps202
      go_wp2_with fail
      go_at_fn F
      refine c0.mono ?_
      clear c0
      rintro e w1 ⟨rfl, hb1⟩
      have HB1 := Lib.hid (tr HA.out hb1)
      have g := (hb1.block w.heap.size (by simp)).trans (heap_alloc_new w _)
      have z0 : w1.cell? ⟨w.heap.size, 0, none⟩ = some (.int .i64 0) := by simp [World.cell?, g]
      have z1 : w1.cell? ⟨w.heap.size, 1, none⟩ = some (.bool false) := by simp [World.cell?, g]
      have zf : ∀ o, w1.frozen? ⟨w.heap.size, o, none⟩ = false := fun o => by simp only [World.frozen?, g]; simp
      clear hb1 g
      go_wp2_with fail
      refine ret_tk rfl rfl rfl rfl (by simp [go_sem, z0]) (by simp [go_sem, z1]) ⟨rfl, ?_⟩
      exact (HB1.out.setCell (p := ⟨w.heap.size, 0, none⟩) (Nat.le_refl _) _).setCell (p := ⟨w.heap.size, 1, none⟩) (Nat.le_refl _) _
    · have hF : Hid (tkA (none :: r) k s true = 0 ∧ tkB (none :: r) k s true = false ∧ (findE (none :: r) k s true).isSome = false) := ⟨rfl, rfl, rfl⟩
      clear c0
      simp only [List.append_toArray, List.cons_append, List.nil_append]
      go_enter Tryz.func202, Tryz.ntmps202
      go_wp2_with fail
      refine ret_tk rfl rfl rfl rfl (by simp [go_sem]; rfl) (by simp [go_sem]; rfl) ⟨by rw [hF.out.1, hF.out.2.1, hF.out.2.2]; rfl, ?_⟩
      exact HA.out
  | some (k', s', a') :: r, v, w, h => by
    obtain ⟨bk, bs, bt, bn, u, rfl, -, h1, h2, h3, h4, h5⟩ := h
    refine ⟨_, _, rfl, enters_of Tryz.func234 (by kernel_rfl) rfl, fun k s own => ?_⟩
    have hA : Below w.heap.size w (w.alloc (.cells #[.int .i64 0, .bool false] 171)) := (Below.refl _ _).alloc (Nat.le_refl _) _
    obtain ⟨F, cap, rfl, eg, hc⟩ := env_any P r u _ (h5.below hA)
    have c0 := hc k s own
    have l1 : ∀ o, (w.alloc o).cell? ⟨bk, 0, none⟩ = some (.int .i64 k') := fun o => al_cell (by simp [World.cell?, h1]) o
    have l2 : ∀ o, (w.alloc o).cell? ⟨bs, 0, none⟩ = some (.string ⟨s'.toArray⟩) := fun o => al_cell (by simp [World.cell?, h2]) o
    have l3 : ∀ o, (w.alloc o).cell? ⟨bt, 0, none⟩ = some (.int .i64 a') := fun o => al_cell (by simp [World.cell?, h3]) o
    have l4 : ∀ o, (w.alloc o).cell? ⟨bt, 1, none⟩ = some (.bool (decide (k' = 2))) := fun o => al_cell (by simp [World.cell?, h3]) o
    have l5 : ∀ o, (w.alloc o).cell? ⟨bn, 0, none⟩ = some (.func (.func F) #[] cap) := fun o => al_cell (by simp [World.cell?, h4]) o
    have HA := Lib.hid hA
    clear hc h1 h2 h3 h4 h5 hA
    by_cases hk : k = k'
    · subst hk
      by_cases hs : s = s'
      · subst hs
        have hF : Hid (tkA (some (k, s, a') :: r) k s own = a' ∧ tkB (some (k, s, a') :: r) k s own = decide (k = 2) ∧ (findE (some (k, s, a') :: r) k s own).isSome = true) := ⟨by simp [tkA, findE], by simp [tkB, findE], by simp [findE]⟩
        obtain ⟨B, hB⟩ : ∃ B, decide (k = 2) = B := ⟨_, rfl⟩
        rw [hB] at l4
        have HBB := Lib.hid hB
        clear c0 hB
        simp only [List.append_toArray, List.cons_append, List.nil_append]
        go_enter Tryz.func234, Tryz.ntmps234
        go_wp2_with fail
        refine ret_tk (v := .bool true) rfl rfl rfl rfl (by simp [go_sem]; rfl) (by simp [go_sem]; rfl) ⟨by rw [hF.out.1, hF.out.2.1, hF.out.2.2, HBB.out], ?_⟩
        exact (Below.refl _ _).alloc (Nat.le_refl _) _
      · have hno : findE (some (k, s', a') :: r) k s own = findE r k s own := by simp [findE, hs]
        have Q1 := str_ne hs
        clear hs
        unfold TkEnd at c0 ⊢
        rw [show tkA (some (k, s', a') :: r) k s own = tkA r k s own by unfold tkA; rw [hno], show tkB (some (k, s', a') :: r) k s own = tkB r k s own by unfold tkB; rw [hno], hno]
        obtain ⟨x, hx⟩ : ∃ x, tkA r k s own = x := ⟨_, rfl⟩
        obtain ⟨y, hy⟩ : ∃ y, tkB r k s own = y := ⟨_, rfl⟩
        obtain ⟨z, hz⟩ : ∃ z, (findE r k s own).isSome = z := ⟨_, rfl⟩
        rw [hx, hy, hz] at c0 ⊢
        clear hx hy hz hno
        simp only [List.append_toArray, List.cons_append, List.nil_append]
        go_enter Tryz.func234, Tryz.ntmps234
        go_wp2_with fail
        go_at_fn F
        refine c0.mono ?_
        clear c0
        rintro e w1 ⟨rfl, hb1⟩
        have HB1 := Lib.hid (tr HA.out hb1)
        have g := (hb1.block w.heap.size (by simp)).trans (heap_alloc_new w _)
        have z0 : w1.cell? ⟨w.heap.size, 0, none⟩ = some (.int .i64 0) := by simp [World.cell?, g]
        have z1 : w1.cell? ⟨w.heap.size, 1, none⟩ = some (.bool false) := by simp [World.cell?, g]
        have zf : ∀ o, w1.frozen? ⟨w.heap.size, o, none⟩ = false := fun o => by simp only [World.frozen?, g]; simp
        clear hb1 g
        go_wp2_with fail
        refine ret_tk rfl rfl rfl rfl (by simp [go_sem, z0]) (by simp [go_sem, z1]) ⟨rfl, ?_⟩
        exact (HB1.out.setCell (p := ⟨w.heap.size, 0, none⟩) (Nat.le_refl _) _).setCell (p := ⟨w.heap.size, 1, none⟩) (Nat.le_refl _) _
    · have hno : findE (some (k', s', a') :: r) k s own = findE r k s own := by simp [findE, hk]
      have Q1 : ((k : Int) == (k' : Int)) = false := beq_eq_false_iff_ne.2 (by omega)
      clear hk
      unfold TkEnd at c0 ⊢
      rw [show tkA (some (k', s', a') :: r) k s own = tkA r k s own by unfold tkA; rw [hno], show tkB (some (k', s', a') :: r) k s own = tkB r k s own by unfold tkB; rw [hno], hno]
      obtain ⟨x, hx⟩ : ∃ x, tkA r k s own = x := ⟨_, rfl⟩
      obtain ⟨y, hy⟩ : ∃ y, tkB r k s own = y := ⟨_, rfl⟩
      obtain ⟨z, hz⟩ : ∃ z, (findE r k s own).isSome = z := ⟨_, rfl⟩
      rw [hx, hy, hz] at c0 ⊢
      clear hx hy hz hno
      simp only [List.append_toArray, List.cons_append, List.nil_append]
      go_enter Tryz.func234, Tryz.ntmps234
      go_wp2_with fail
      go_at_fn F
      refine c0.mono ?_
      clear c0
      rintro e w1 ⟨rfl, hb1⟩
      have HB1 := Lib.hid (tr HA.out hb1)
      have g := (hb1.block w.heap.size (by simp)).trans (heap_alloc_new w _)
      have z0 : w1.cell? ⟨w.heap.size, 0, none⟩ = some (.int .i64 0) := by simp [World.cell?, g]
      have z1 : w1.cell? ⟨w.heap.size, 1, none⟩ = some (.bool false) := by simp [World.cell?, g]
      have zf : ∀ o, w1.frozen? ⟨w.heap.size, o, none⟩ = false := fun o => by simp only [World.frozen?, g]; simp
      clear hb1 g
      go_wp2_with fail
      refine ret_tk rfl rfl rfl rfl (by simp [go_sem, z0]) (by simp [go_sem, z1]) ⟨rfl, ?_⟩
      exact (HB1.out.setCell (p := ⟨w.heap.size, 0, none⟩) (Nat.le_refl _) _).setCell (p := ⟨w.heap.size, 1, none⟩) (Nat.le_refl _) _
theorem heap4 (w : World) (a b c d : Obj) : (((((w.alloc a).alloc b).alloc c).alloc d).heap[w.heap.size]? = some a) ∧ (((((w.alloc a).alloc b).alloc c).alloc d).heap[w.heap.size + 1]? = some b) ∧ (((((w.alloc a).alloc b).alloc c).alloc d).heap[w.heap.size + 2]? = some c) ∧ (((((w.alloc a).alloc b).alloc c).alloc d).heap[w.heap.size + 3]? = some d) := by
  have s1 := World.size_alloc w a
  have s2 := World.size_alloc (w.alloc a) b
  have s3 := World.size_alloc ((w.alloc a).alloc b) c
  refine ⟨?_, ?_, ?_, ?_⟩
  · rw [Below.heap_alloc _ _ _ (by omega), Below.heap_alloc _ _ _ (by omega), Below.heap_alloc _ _ _ (by omega)]
    exact heap_alloc_new w a
  · rw [Below.heap_alloc _ _ _ (by omega), Below.heap_alloc _ _ _ (by omega)]
    have := heap_alloc_new (w.alloc a) b
    rwa [s1] at this
  · rw [Below.heap_alloc _ _ _ (by omega)]
    have := heap_alloc_new ((w.alloc a).alloc b) c
    rwa [s2, s1] at this
  · have := heap_alloc_new (((w.alloc a).alloc b).alloc c) d
    rwa [s3, s2, s1] at this
/-- One name more stands. -/
theorem with_any (P : Nat → Prop) (ρ : Env) (v : Value) (k : Nat) (s : List UInt8) (a : Nat) (B : Bool) (hB : B = decide (k = 2)) (w : World) (h : EnvAt w P ρ v) (hP : ∀ b, P b → b < w.heap.size) :
    Calls Tryz.prog 205 #[v, .int .i64 k, .string ⟨s.toArray⟩, .agg #[.int .i64 a, .bool B]] w fun e w' => ∃ v', e = .returned v' ∧ EnvAt w' P (some (k, s, a) :: ρ) v' ∧ Below w.heap.size w w' := by
  have hmf : ∀ (fn : Fn) (first cap : Array Value) (w : World), (Instr.makeFunc fn first cap).run Tryz.prog w = .ok (.func fn first cap) w := fun _ _ _ _ => rfl
  obtain ⟨F, cap, rfl, -, -⟩ := env_any P ρ v w h
  have HH := Lib.hid h
  have HP := Lib.hid hP
  have HB := Lib.hid hB
  clear h hP hB
  go_enter Tryz.func205, Tryz.ntmps205
  go_wp2_with fail
  go_ret
  have hb : Below w.heap.size w ((((w.alloc (.cells #[.func (.func F) #[] cap] 210)).alloc (.cells #[.int .i64 k] 3)).alloc (.cells #[.string ⟨s.toArray⟩] 9)).alloc (.cells #[.int .i64 a, .bool B] 171)) :=
    ((((Below.refl _ _).alloc (Nat.le_refl _) _).alloc (by simp) _).alloc (by simp; omega) _).alloc (by simp; omega) _
  have g4 := heap4 w (.cells #[.func (.func F) #[] cap] 210) (.cells #[.int .i64 k] 3) (.cells #[.string ⟨s.toArray⟩] 9) (.cells #[.int .i64 a, .bool B] 171)
  have nP : ∀ m, ¬ P (w.heap.size + m) := fun m hm => by have := HP.out _ hm; omega
  refine ⟨_, rfl, ⟨w.heap.size + 1, w.heap.size + 2, w.heap.size + 3, w.heap.size, _, rfl, ⟨nP 1, nP 2, nP 3, nP 0⟩, g4.2.1, g4.2.2.1, by rw [← HB.out]; exact g4.2.2.2, g4.1, HH.out.below hb⟩, hb⟩
theorem within_any (P : Nat → Prop) (ρ : Env) (v : Value) (w : World) (h : EnvAt w P ρ v) (hP : ∀ b, P b → b < w.heap.size) :
    Calls Tryz.prog 175 #[v] w fun e w' => ∃ v', e = .returned v' ∧ EnvAt w' P (none :: ρ) v' ∧ Below w.heap.size w w' := by
  have hmf : ∀ (fn : Fn) (first cap : Array Value) (w : World), (Instr.makeFunc fn first cap).run Tryz.prog w = .ok (.func fn first cap) w := fun _ _ _ _ => rfl
  obtain ⟨F, cap, rfl, -, -⟩ := env_any P ρ v w h
  have HH := Lib.hid h
  have HP := Lib.hid hP
  clear h hP
  go_enter Tryz.func175, Tryz.ntmps175
  go_wp2_with fail
  go_ret
  have hb : Below w.heap.size w (w.alloc (.cells #[.func (.func F) #[] cap] 210)) := (Below.refl _ _).alloc (Nat.le_refl _) _
  exact ⟨_, rfl, ⟨w.heap.size, _, rfl, fun hm => by have := HP.out _ hm; omega, heap_alloc_new w _, HH.out.below hb⟩, hb⟩
end Go.Proofs.YtpbkeamjdolpgaaGreatDoor
namespace Go.Proofs.YtpbkeamjdolpgaaGreatDoor
open Go.RowKit Go.Lib
open Go.Maps (Keyed)

/-- An entry of a map's literal. -/
theorem wpList_insert_own {H : Type} {P : Program} (w : World) {ops : Array Oper} {rest : List Oper} {o : Oper} {a : Act} {Q : Exit → Act → World → Prop}
    (hg : o.guard = none) (m x v : Operand) (t : TypeId) (hop : o.op = Op.insert t m x v)
    (k e : TypeId) (K : Keyed P k) (ht : P.underlying t = some (.map k e)) (R : Value → Option (DataW H × List MemPlace)) (b n : Nat) (D : DataW H)
    (hm : a.eval m = .map (some b)) (hown : w.ownsMap P k R b n D) (hn : n < maxLen) (key val : Value) (kl : Lit) (hx : a.eval x = key) (hv : a.eval v = val) (hkey : keyOf P k key = some kl)
    (d : DataW H) (ps : List MemPlace) (hval : R val = some (d, ps))
    (hK : ∀ w', w'.ownsMap P k R b (n + 1) (D.put kl d) → w.grownBy w' (some b) → wpList P ops Q rest (a.put o.dst undef) w') :
    wpList P ops Q (o :: rest) a w := by
  refine wpList_plain hg fun K' hK' => ?_
  obtain ⟨w', hrun, r1, r2⟩ := hown.update K ht hn hkey hval
  unfold Oper.wp
  simp [execOp, hop, hm, hx, hv, hrun, Result.andThen]
  exact hK' _ _ (hK w' r1 r2)

/-- How a value of scope.takes reads. -/
def tkElem (v : Value) : Option (DataW Unit × List MemPlace) := match v with
  | .agg xs => match xs.toList with
    | [.int .i64 a, .bool b] => some (.agg [.lit (.int .i64 a), .lit (.bool b)], [])
    | _ => none
  | _ => none
theorem tkElem_mk (a : Int) (b : Bool) : tkElem (.agg #[.int .i64 a, .bool b]) = some (.agg [.lit (.int .i64 a), .lit (.bool b)], []) := rfl
theorem tkElem_inv {v : Value} {z : DataW Unit × List MemPlace} (h : tkElem v = some z) : ∃ a b, v = .agg #[.int .i64 a, .bool b] ∧ z = (.agg [.lit (.int .i64 a), .lit (.bool b)], []) := by
  unfold tkElem at h
  split at h
  · rename_i xs
    split at h
    · rename_i a b hx
      simp at h
      refine ⟨a, b, ?_, h.symm⟩
      congr 1
      obtain ⟨l⟩ := xs
      simp at hx
      subst hx
      rfl
    · cases h
  · cases h
/-- What takes how many arguments, and whether a block: as a function tells. -/
def TkD (D : DataW Unit) (f : List UInt8 → Option (Nat × Bool)) : Prop := Maps.IsMap D ∧ ∀ s, Maps.has D (.string s) = (f s).isSome ∧ ∀ a b, f s = some (a, b) → ∀ z, D.atKey (.string s) z = .agg [.lit (.int .i64 a), .lit (.bool b)]
theorem TkD.nil : TkD (.map []) (fun _ => none) := ⟨⟨[], rfl⟩, fun s => ⟨rfl, fun a b h => by cases h⟩⟩
theorem TkD.put {D : DataW Unit} {f : List UInt8 → Option (Nat × Bool)} (h : TkD D f) (k : List UInt8) (a : Nat) (b : Bool) : TkD (D.put (.string k) (.agg [.lit (.int .i64 a), .lit (.bool b)])) (fun s => if s = k then some (a, b) else f s) := by
  have hk : WideAt.IsKeyLit (.string k) := by simp [WideAt.IsKeyLit]
  obtain ⟨es, rfl⟩ := h.1
  refine ⟨⟨_, rfl⟩, fun s => ?_⟩
  by_cases hs : s = k
  · subst hs
    refine ⟨by simpa using Maps.has_put_same (D := .map es) ⟨es, rfl⟩ hk _, fun a' b' e z => ?_⟩
    simp at e
    obtain ⟨rfl, rfl⟩ := e
    exact Maps.atKey_put_same ⟨es, rfl⟩ hk _ z
  · have hne : (Lit.string s) ≠ .string k := fun e => hs (by cases e; rfl)
    obtain ⟨h1, h2⟩ := h.2 s
    refine ⟨?_, fun a' b' e z => ?_⟩
    · rw [Maps.has_put_other hne, h1]
      simp [hs]
    · simp [hs] at e
      rw [Maps.atKey_put_other hne]
      exact h2 a' b' e z
def TkMap (w : World) (b : Nat) (f : List UInt8 → Option (Nat × Bool)) : Prop := ∃ n D, n ≤ 64 ∧ w.ownsMap Tryz.prog 9 tkElem b n D ∧ TkD D f
/-- The names of a list, as a map's keys. -/
def CntD (D : DataW Unit) (l : List (List UInt8)) : Prop := Maps.IsMap D ∧ ∀ s, Maps.has D (.string s) = decide (s ∈ l)
theorem CntD.nil : CntD (.map []) [] := ⟨⟨[], rfl⟩, fun _ => rfl⟩
theorem CntD.put {D : DataW Unit} {l : List (List UInt8)} (h : CntD D l) (k : List UInt8) (d : DataW Unit) : CntD (D.put (.string k) d) (l ++ [k]) := by
  have hk : WideAt.IsKeyLit (.string k) := by simp [WideAt.IsKeyLit]
  obtain ⟨es, rfl⟩ := h.1
  refine ⟨⟨_, rfl⟩, fun s => ?_⟩
  by_cases hs : s = k
  · subst hs
    rw [Maps.has_put_same ⟨es, rfl⟩ hk]
    simp
  · have hne : (Lit.string s) ≠ .string k := fun e => hs (by cases e; rfl)
    rw [Maps.has_put_other hne, h.2 s]
    simp [hs]
def CntMap (w : World) (b : Nat) (l : List (List UInt8)) : Prop := ∃ D, w.ownsMap Tryz.prog 9 (plainElem Tryz.prog 3) b l.length D ∧ CntD D l
theorem TkMap.keep {w w' : World} {b : Nat} {f : List UInt8 → Option (Nat × Bool)} (h : TkMap w b f) (hk : w'.heap[b]? = w.heap[b]?) : TkMap w' b f := by
  obtain ⟨n, D, h1, ⟨es, clock, hb, F, hs, hD⟩, h3⟩ := h
  exact ⟨n, D, h1, ⟨es, clock, hk.trans hb, F, hs, hD⟩, h3⟩
theorem CntMap.keep {w w' : World} {b : Nat} {l : List (List UInt8)} (h : CntMap w b l) (hk : w'.heap[b]? = w.heap[b]?) : CntMap w' b l := by
  obtain ⟨D, ⟨es, clock, hb, F, hs, hD⟩, h3⟩ := h
  exact ⟨D, ⟨es, clock, hk.trans hb, F, hs, hD⟩, h3⟩
theorem TkMap.lt {w : World} {b : Nat} {f : List UInt8 → Option (Nat × Bool)} (h : TkMap w b f) : b < w.heap.size := by
  obtain ⟨n, D, h1, h2, h3⟩ := h
  exact h2.lt
theorem CntMap.lt {w : World} {b : Nat} {l : List (List UInt8)} (h : CntMap w b l) : b < w.heap.size := by
  obtain ⟨D, h2, h3⟩ := h
  exact h2.lt
theorem Tryz.kStr : Keyed Tryz.prog 9 := Maps.string_keyed Tryz.underlying9
theorem key_str (s : List UInt8) (h : s.length ≤ maxLen) : keyOf Tryz.prog 9 (.string ⟨s.toArray⟩) = some (.string s) := by
  have := Go.WideMaps.keyOf_string_mk (P := Tryz.prog) (k := 9) Tryz.underlying9 (s := ⟨s.toArray⟩) (by show s.toArray.size ≤ _; simpa using h)
  simpa using this
theorem Tryz.zeroTakes (w : World) : (zeroValue 171).run Tryz.prog w = .ok (.agg #[.int .i64 0, .bool false]) w := by kernel_rfl
theorem Tryz.zeroIntM (w : World) : (zeroValue 3).run Tryz.prog w = .ok (.int .i64 0) w := by kernel_rfl
end Go.Proofs.YtpbkeamjdolpgaaGreatDoor
namespace Go.Proofs.YtpbkeamjdolpgaaGreatDoor
open Go.RowKit Go.Lib Go.Sort
open Go.Maps (Keyed)

theorem Tryz.infoStr : (Tryz.prog.info? 9).map (fun i => (i.zero, i.size, i.bytes)) = some (some (.string ⟨#[]⟩), 1, 16) := by kernel_rfl
theorem size_own {k : TypeId} {R : Value → Option (DataW Unit × List MemPlace)} {w : World} {b n : Nat} {D : DataW Unit} (h : w.ownsMap Tryz.prog k R b n D) : Maps.size D ≤ n := by
  obtain ⟨es, clock, hb, F, hs, rfl⟩ := h
  simpa [Maps.size, length_sorted] using hs
set_option maxHeartbeats 4000000 in
set_option maxRecDepth 100000 in
theorem rising_any (b : Nat) (l : List (List UInt8)) (hl : l.length < 2 ^ 40) (w : World) (h : CntMap w b l) :
    Calls Tryz.prog 76 #[.map (some b)] w fun e w' => ∃ v, e = .returned v ∧ w'.ownsRow w.heap.size 9 1 v (risL l).length ((risL l).map encStr) ∧ Below w.heap.size w w' := by
  obtain ⟨D, hown, hD⟩ := h
  obtain ⟨i0, hi, hz0, hz1, hz2⟩ := info_parts Tryz.infoStr
  have hsz := size_own hown
  have hbl := hown.lt
  have hnx0 : Below w.heap.size w w := Below.refl _ _
  go_enter Tryz.func76, Tryz.ntmps76
  go_wp2_with (first
    | (at_range; refine wpList_range_own _ rfl _ 119 rfl 9 3 Tryz.kStr Tryz.underlying119 _ b _ D rfl hown ?_; intro w0 hrg0 hg0 hs0))
  go_frame
  go_loopw [3] (fun v wr => ∃ (left : Lit → Bool) (cnt : Nat) (ss : List (List UInt8)), wr.ranges Tryz.prog 9 (plainElem Tryz.prog 3) b w.heap.size l.length D left cnt ∧ ss.length + cnt ≤ l.length ∧
      wr.ownsRow w.heap.size 9 1 v ss.length (ss.map encStr) ∧ Collected D left ss ∧ Below w.heap.size w wr)
    (fun _ wr => wr.rangeLeft b w.heap.size)
  case atStart =>
    exact ⟨_, _, [], hrg0, by simpa using hsz, World.ownsRow_nil _ _ _ _, Collected.start D, hnx0.grown hg0 (Nat.le_refl _) (fun j hj => by cases hj)⟩
  case round =>
    obtain ⟨left, cnt, ss, hrg, hcs, hrow, hC, hnx⟩ := hrel
    go_wp2_with (first
      | (at_next; refine wpList_next_ranges _ rfl _ rfl 9 Tryz.kStr (plainElem Tryz.prog 3) encStr (Value.int .i64) (fun key kl hk => by obtain ⟨x, hx, _⟩ := Maps.keyOf_str Tryz.underlying9 hk; exact ⟨x, hx⟩) (fun v y hv => by obtain ⟨c, rfl, _⟩ := plainElem_int_inv Tryz.underlying3 hv; exact ⟨c, rfl⟩) b w.heap.size l.length _ _ _ rfl hrg ?_ ?_))
    · intro hc0 hl0
      have hmem : ∀ x, x ∈ ss ↔ x ∈ l := fun x => by
        rw [hC.2 x, hD.2 x, hl0]
        simp
      have hsort := sort_ris hC.1 hmem
      rcases hrow.2 with ⟨rfl, hnil⟩ | ⟨g, cap, cur, rfl, hbase, hb, h1, h2, h3, h4⟩
      · have he : ss = [] := List.length_eq_zero_iff.1 hnil
        subst he
        have HR : Hid (risL l = []) := Lib.hid (by rw [← hsort]; simp)
        have hc := Any.slices_Sort_string_none Tryz.lays190 none 0 wr
        have HB := Lib.hid hnx
        clear hrow hnx hrg hC hD hmem hsort
        go_wp2_with (go_at_call 136; refine hc.mono ?_; rintro e w' ⟨rfl, rfl⟩)
        go_ret
        rw [HR.out]
        exact ⟨_, rfl, World.ownsRow_nil _ _ _ _, HB.out⟩
      · have hH : Holds encStr wr g 0 ss.toArray := holds_of_block hb (by simpa using h4)
        have hgl : g < wr.heap.size := (Array.getElem?_eq_some_iff.1 hb).1
        have hc := Tryz.slices_Sort_string g 0 cap ss wr hH hgl (by omega)
        have HB := Lib.hid hnx
        have HG := Lib.hid (⟨hbase, hb, h1, h2, h3⟩ : _ ∧ _ ∧ _ ∧ _ ∧ _)
        have HS := Lib.hid hsort
        clear hrow hnx hrg hC hD hmem hsort hbase hb h1 h2 h3 h4 hH hgl
        go_wp2_with (go_at_call 136; refine hc.mono ?_; rintro e w' ⟨rfl, nn, os, rfl⟩)
        go_ret
        obtain ⟨hbase, hb, h1, h2, h3⟩ := HG.out
        have hr := ownsRow_sorted (n := nn) (os := os) (ts := ss.mergeSort fun x y => decide (x ≤ y)) (by simp) hbase hb h1 h2 h3
        have hlen : ss.length = (risL l).length := by rw [← HS.out]; simp
        rw [HS.out, hlen] at hr
        rw [HS.out, hlen]
        exact ⟨_, rfl, hr, HB.out.grown (grownBy_sorted _) HB.out.size (fun j hj => by cases hj; exact hbase)⟩
    · intro x c kl yd yp w2 cnt2 hkey hlk hv hat hrg2 hlt hg2 hs2 hen
      obtain ⟨x', ex, rfl, _⟩ := Maps.keyOf_str Tryz.underlying9 hkey
      obtain rfl : x = x' := encStr_inj ex
      have hrow2 := hrow.kept hg2 (Or.inr (row_ne_iter hrow hrg).symm)
      clear hs2
      go_wp2_with (at_builtin; refine wpList_append_own _ rfl _ _ 44 rfl w.heap.size 9 i0 (.string ⟨#[]⟩) 1 16 Tryz.underlying44 hi hz0 hz1 hz2 rfl (by decide) _ _ _ rfl (hrow2.alloc _) ⟨w2.heap.size, 0, none⟩ 1 1 [encStr x] rfl rfl (cell_one_new _ _ _) (by simp [Value.oneCell', encStr]) (by unfold maxLen at *; omega) (by omega) (by have := hnx.size; have := hg2.size; simp; omega) ?_; intro v' w3 hown' hg3 hnil3)
      have hrg3 := (hrg2.alloc _).kept hg3 (row_ne_low hrow2 hbl) (row_ne_iter hrow2 hrg2)
      go_roundw
      case rel =>
        refine ⟨_, cnt2, ss ++ [x], hrg3, by simp; omega, by simpa using hown', hC.step hlk hat, ?_⟩
        exact ((hnx.grown hg2 hnx.size (fun j hj => by cases hj; exact Nat.le_refl _)).alloc (by have := hnx.size; have := hg2.size; omega) _).grown hg3 (by have := hnx.size; have := hg2.size; simp; omega) (fun j hj => (hrow2.lt j hj).1)
      case measure => rw [hrg3.left_eq, hrg.left_eq]; exact hlt
end Go.Proofs.YtpbkeamjdolpgaaGreatDoor
namespace Go.Proofs.YtpbkeamjdolpgaaGreatDoor
open Go.RowKit Go.Lib
open Go.Maps (Keyed)

theorem Below.grownN {B b : Nat} {a w w1 : World} (h : Below B a w ∧ B ≤ b ∧ B ≤ w.heap.size) (hg : w.grownBy w1 (some b)) : Below B a w1 ∧ B ≤ b ∧ B ≤ w1.heap.size :=
  ⟨⟨hg.os.trans h.1.os, hg.tape.trans h.1.tape, hg.output.trans h.1.output, Nat.le_trans h.1.size hg.size, fun k hk => (hg.block k (by have := h.2.2; omega) (fun e => by have h2 := h.2.1; cases e; omega)).trans (h.1.block k hk)⟩, h.2.1, Nat.le_trans h.2.2 hg.size⟩
theorem fn_fun : (fun s : List UInt8 => if s = [114, 97, 110, 103, 101] then some (2, false) else if s = [109, 97, 120] then some (1, false) else if s = [109, 105, 110] then some (1, false) else if s = [102, 108, 111, 111, 114] then some (1, false) else if s = [97, 98, 115] then some (1, false) else if s = [108, 101, 110] then some (1, false) else none) = fun s => (fnB s).map (·, false) := by
  funext s
  unfold fnB fn1 fn2
  by_cases h0 : s = [108, 101, 110]
  · subst h0; rfl
  by_cases h1 : s = [97, 98, 115]
  · subst h1; rfl
  by_cases h2 : s = [102, 108, 111, 111, 114]
  · subst h2; rfl
  by_cases h3 : s = [109, 105, 110]
  · subst h3; rfl
  by_cases h4 : s = [109, 97, 120]
  · subst h4; rfl
  by_cases h5 : s = [114, 97, 110, 103, 101]
  · subst h5; rfl
  simp [h0, h1, h2, h3, h4, h5]
set_option maxHeartbeats 4000000 in
set_option maxRecDepth 100000 in
theorem functions_any (w : World) : Calls Tryz.prog 132 #[] w fun e w' => ∃ b, e = .returned (.map (some b)) ∧ w.heap.size ≤ b ∧ TkMap w' b (fun s => (fnB s).map (·, false)) ∧ Below w.heap.size w w' := by
  have hmm := @run_makeMap Tryz.prog
  have hown := World.ownsMap_made (H := Unit) w Tryz.prog 9 tkElem
  have hbel : Below w.heap.size w (w.alloc (.map #[] 0)) ∧ w.heap.size ≤ w.heap.size ∧ w.heap.size ≤ (w.alloc (.map #[] 0)).heap.size := ⟨(Below.refl _ _).alloc (Nat.le_refl _) _, Nat.le_refl _, by simp⟩
  go_enter Tryz.func132, Tryz.ntmps132
  go_wp2_with (refine wpList_insert_own _ rfl _ _ _ 117 rfl 9 171 Tryz.kStr Tryz.underlying117 tkElem _ _ _ rfl hown (by unfold maxLen; omega) _ _ _ rfl rfl (key_str _ (by decide)) _ [] (tkElem_mk _ _) ?_; intro w1 hown hgrow; have hbel := Below.grownN hbel hgrow)
  go_ret
  exact ⟨_, rfl, Nat.le_refl _, ⟨_, _, by omega, hown, fn_fun ▸ ((((((TkD.nil.put [108, 101, 110] 1 false).put [97, 98, 115] 1 false).put [102, 108, 111, 111, 114] 1 false).put [109, 105, 110] 1 false).put [109, 97, 120] 1 false).put [114, 97, 110, 103, 101] 2 false)⟩, hbel.1⟩
/-- What the seven entries say. -/
def md7 (s : List UInt8) : Option (Nat × Bool) := if s = [100, 105, 97, 109, 111, 110, 100] then some (2, false) else if s = [100, 111, 116, 115] then some (1, false) else if s = [98, 111, 120] then some (2, false) else if s = [104, 97, 108, 102] then some (2, false) else if s = [99, 104, 105, 108, 100, 114, 101, 110] then some (0, false) else if s = [102, 117, 108, 108] then some (0, false) else if s = [101, 109, 112, 116, 121] then some (0, false) else none
theorem md_fun : (fun s : List UInt8 => if s ∈ mb1 then some (1, true) else if s ∈ mb0 then some (0, true) else md7 s) = mdB := by
  funext s
  unfold mdB md0 md1 md2 mb0 mb1 md7
  by_cases h0 : s = [101, 109, 112, 116, 121]
  · subst h0; rfl
  by_cases h1 : s = [102, 117, 108, 108]
  · subst h1; rfl
  by_cases h2 : s = [99, 104, 105, 108, 100, 114, 101, 110]
  · subst h2; rfl
  by_cases h3 : s = [104, 97, 108, 102]
  · subst h3; rfl
  by_cases h4 : s = [98, 111, 120]
  · subst h4; rfl
  by_cases h5 : s = [100, 111, 116, 115]
  · subst h5; rfl
  by_cases h6 : s = [100, 105, 97, 109, 111, 110, 100]
  · subst h6; rfl
  by_cases h7 : s = [117, 110, 105, 111, 110]
  · subst h7; rfl
  by_cases h8 : s = [105, 110, 116, 101, 114, 115, 101, 99, 116, 105, 111, 110]
  · subst h8; rfl
  by_cases h9 : s = [100, 105, 102, 102, 101, 114, 101, 110, 99, 101]
  · subst h9; rfl
  by_cases h10 : s = [120, 111, 114]
  · subst h10; rfl
  by_cases h11 : s = [104, 117, 108, 108]
  · subst h11; rfl
  by_cases h12 : s = [109, 105, 110, 107, 111, 119, 115, 107, 105]
  · subst h12; rfl
  by_cases h13 : s = [99, 111, 109, 112, 108, 101, 109, 101, 110, 116]
  · subst h13; rfl
  by_cases h14 : s = [105, 110, 116, 101, 114, 105, 111, 114]
  · subst h14; rfl
  by_cases h15 : s = [99, 108, 111, 115, 117, 114, 101]
  · subst h15; rfl
  by_cases h16 : s = [98, 111, 117, 110, 100, 97, 114, 121]
  · subst h16; rfl
  by_cases h17 : s = [114, 101, 103, 117, 108, 97, 114]
  · subst h17; rfl
  by_cases h18 : s = [109, 111, 118, 101]
  · subst h18; rfl
  by_cases h19 : s = [115, 116, 114, 101, 116, 99, 104]
  · subst h19; rfl
  by_cases h20 : s = [109, 105, 114, 114, 111, 114]
  · subst h20; rfl
  by_cases h21 : s = [116, 117, 114, 110]
  · subst h21; rfl
  by_cases h22 : s = [109, 97, 112]
  · subst h22; rfl
  simp [h0, h1, h2, h3, h4, h5, h6, h7, h8, h9, h10, h11, h12, h13, h14, h15, h16, h17, h18, h19, h20, h21, h22]
theorem TkD.fun_ {D : DataW Unit} {f g : List UInt8 → Option (Nat × Bool)} (h : TkD D f) (e : f = g) : TkD D g := e ▸ h
theorem take_fun (l : List (List UInt8)) (i : Nat) (x : List UInt8) (hx : l[i]? = some x) (v : Nat × Bool) (f : List UInt8 → Option (Nat × Bool)) :
    (fun s => if s = x then some (v.1, v.2) else if s ∈ l.take i then some v else f s) = fun s => if s ∈ l.take (i + 1) then some v else f s := by
  funext s
  rw [List.take_add_one, hx]
  by_cases h1 : s = x
  · subst h1
    simp
  · by_cases h2 : s ∈ l.take i
    · simp [h1, h2]
    · simp [h1, h2]
/-- A row of strings. -/
def SRow (w : World) (g : Nat) (l : List (List UInt8)) : Prop := w.heap[g]? = some (.cells (l.map fun s => Value.string ⟨s.toArray⟩).toArray 9 (0, 0))
theorem SRow.at_ {w : World} {g : Nat} {l : List (List UInt8)} (h : SRow w g l) {i : Nat} {x : List UInt8} (hx : l[i]? = some x) : w.cell? ⟨g, i, none⟩ = some (.string ⟨x.toArray⟩) := by
  unfold SRow at h
  simp [World.cell?, h, hx]
theorem mb_len : ∀ x ∈ mb0 ++ mb1, x.length ≤ maxLen := by
  intro x hx
  have : (mb0 ++ mb1).all (fun x => decide (x.length ≤ 20)) = true := by decide
  have := List.all_eq_true.1 this x hx
  simp at this
  unfold maxLen
  omega
set_option maxHeartbeats 4000000 in
set_option maxRecDepth 100000 in
theorem modules_any (w : World) : Calls Tryz.prog 133 #[] w fun e w' => ∃ b, e = .returned (.map (some b)) ∧ w.heap.size ≤ b ∧ TkMap w' b mdB ∧ Below w.heap.size w w' := by
  have hmm := @run_makeMap Tryz.prog
  have hown := World.ownsMap_made (H := Unit) w Tryz.prog 9 tkElem
  have hbel : Below w.heap.size w (w.alloc (.map #[] 0)) ∧ w.heap.size ≤ w.heap.size ∧ w.heap.size ≤ (w.alloc (.map #[] 0)).heap.size := ⟨(Below.refl _ _).alloc (Nat.le_refl _) _, Nat.le_refl _, by simp⟩
  go_enter Tryz.func133, Tryz.ntmps133
  go_upto_region 2 with (refine wpList_insert_own _ rfl _ _ _ 117 rfl 9 171 Tryz.kStr Tryz.underlying117 tkElem _ _ _ rfl hown (by unfold maxLen; omega) _ _ _ rfl rfl (key_str _ (by decide)) _ [] (tkElem_mk _ _) ?_; intro w1 hown hgrow; have hbel := Below.grownN hbel hgrow)
  have TKD : TkD _ md7 := (((((((TkD.nil.put [101, 109, 112, 116, 121] 0 false).put [102, 117, 108, 108] 0 false).put [99, 104, 105, 108, 100, 114, 101, 110] 0 false).put [104, 97, 108, 102] 2 false).put [98, 111, 120] 2 false).put [100, 111, 116, 115] 1 false).put [100, 105, 97, 109, 111, 110, 100] 2 false)
  have H0 : Hid (∃ m D, m ≤ 7 ∧ w1.ownsMap Tryz.prog 9 tkElem w.heap.size m D ∧ TkD D (fun s => if s ∈ mb0.take 0 then some (0, true) else md7 s)) := Lib.hid ⟨_, _, by omega, hown, TKD.fun_ (by funext s; simp)⟩
  have HB0 := Lib.hid hbel
  have hlt0 : w.heap.size < w1.heap.size := hown.lt
  clear hown TKD hbel hgrow

  go_wp2_with fail
  have HS : Hid (SRow (w1.alloc (.cells #[.string ⟨#[117, 110, 105, 111, 110]⟩, .string ⟨#[105, 110, 116, 101, 114, 115, 101, 99, 116, 105, 111, 110]⟩, .string ⟨#[100, 105, 102, 102, 101, 114, 101, 110, 99, 101]⟩, .string ⟨#[120, 111, 114]⟩, .string ⟨#[104, 117, 108, 108]⟩, .string ⟨#[109, 105, 110, 107, 111, 119, 115, 107, 105]⟩, .string ⟨#[99, 111, 109, 112, 108, 101, 109, 101, 110, 116]⟩, .string ⟨#[105, 110, 116, 101, 114, 105, 111, 114]⟩, .string ⟨#[99, 108, 111, 115, 117, 114, 101]⟩, .string ⟨#[98, 111, 117, 110, 100, 97, 114, 121]⟩, .string ⟨#[114, 101, 103, 117, 108, 97, 114]⟩] 9)) w1.heap.size mb0) := heap_alloc_new w1 _
  have HT : Hid ((∃ m D, m ≤ 7 + 0 ∧ (w1.alloc (.cells #[.string ⟨#[117, 110, 105, 111, 110]⟩, .string ⟨#[105, 110, 116, 101, 114, 115, 101, 99, 116, 105, 111, 110]⟩, .string ⟨#[100, 105, 102, 102, 101, 114, 101, 110, 99, 101]⟩, .string ⟨#[120, 111, 114]⟩, .string ⟨#[104, 117, 108, 108]⟩, .string ⟨#[109, 105, 110, 107, 111, 119, 115, 107, 105]⟩, .string ⟨#[99, 111, 109, 112, 108, 101, 109, 101, 110, 116]⟩, .string ⟨#[105, 110, 116, 101, 114, 105, 111, 114]⟩, .string ⟨#[99, 108, 111, 115, 117, 114, 101]⟩, .string ⟨#[98, 111, 117, 110, 100, 97, 114, 121]⟩, .string ⟨#[114, 101, 103, 117, 108, 97, 114]⟩] 9)).ownsMap Tryz.prog 9 tkElem w.heap.size m D ∧ TkD D (fun s => if s ∈ mb0.take 0 then some (0, true) else (md7) s)) ∧ SRow (w1.alloc (.cells #[.string ⟨#[117, 110, 105, 111, 110]⟩, .string ⟨#[105, 110, 116, 101, 114, 115, 101, 99, 116, 105, 111, 110]⟩, .string ⟨#[100, 105, 102, 102, 101, 114, 101, 110, 99, 101]⟩, .string ⟨#[120, 111, 114]⟩, .string ⟨#[104, 117, 108, 108]⟩, .string ⟨#[109, 105, 110, 107, 111, 119, 115, 107, 105]⟩, .string ⟨#[99, 111, 109, 112, 108, 101, 109, 101, 110, 116]⟩, .string ⟨#[105, 110, 116, 101, 114, 105, 111, 114]⟩, .string ⟨#[99, 108, 111, 115, 117, 114, 101]⟩, .string ⟨#[98, 111, 117, 110, 100, 97, 114, 121]⟩, .string ⟨#[114, 101, 103, 117, 108, 97, 114]⟩] 9)) w1.heap.size mb0 ∧ Below w.heap.size w (w1.alloc (.cells #[.string ⟨#[117, 110, 105, 111, 110]⟩, .string ⟨#[105, 110, 116, 101, 114, 115, 101, 99, 116, 105, 111, 110]⟩, .string ⟨#[100, 105, 102, 102, 101, 114, 101, 110, 99, 101]⟩, .string ⟨#[120, 111, 114]⟩, .string ⟨#[104, 117, 108, 108]⟩, .string ⟨#[109, 105, 110, 107, 111, 119, 115, 107, 105]⟩, .string ⟨#[99, 111, 109, 112, 108, 101, 109, 101, 110, 116]⟩, .string ⟨#[105, 110, 116, 101, 114, 105, 111, 114]⟩, .string ⟨#[99, 108, 111, 115, 117, 114, 101]⟩, .string ⟨#[98, 111, 117, 110, 100, 97, 114, 121]⟩, .string ⟨#[114, 101, 103, 117, 108, 97, 114]⟩] 9))) := by
    obtain ⟨m, D, h1, h2, h3⟩ := H0.out
    exact ⟨⟨m, D, by omega, h2.alloc _, h3⟩, HS.out, HB0.out.1.alloc HB0.out.1.size _⟩
  obtain ⟨ga, hga⟩ : ∃ g, w1.heap.size = g := ⟨_, rfl⟩
  rw [hga] at HT ⊢
  have hlta : w.heap.size < ga := by omega
  clear HS H0 HB0 hga
  generalize World.alloc w1 (.cells #[.string ⟨#[117, 110, 105, 111, 110]⟩, .string ⟨#[105, 110, 116, 101, 114, 115, 101, 99, 116, 105, 111, 110]⟩, .string ⟨#[100, 105, 102, 102, 101, 114, 101, 110, 99, 101]⟩, .string ⟨#[120, 111, 114]⟩, .string ⟨#[104, 117, 108, 108]⟩, .string ⟨#[109, 105, 110, 107, 111, 119, 115, 107, 105]⟩, .string ⟨#[99, 111, 109, 112, 108, 101, 109, 101, 110, 116]⟩, .string ⟨#[105, 110, 116, 101, 114, 105, 111, 114]⟩, .string ⟨#[99, 108, 111, 115, 117, 114, 101]⟩, .string ⟨#[98, 111, 117, 110, 100, 97, 114, 121]⟩, .string ⟨#[114, 101, 103, 117, 108, 97, 114]⟩] 9) = Wa at HT ⊢
  go_loopg [17] 11 (fun g v wx => ∃ i : Nat, v = .int .i64 i ∧ i + g = 11 ∧ Hid ((∃ m D, m ≤ 7 + i ∧ wx.ownsMap Tryz.prog 9 tkElem w.heap.size m D ∧ TkD D (fun s => if s ∈ mb0.take i then some (0, true) else (md7) s)) ∧ SRow wx ga mb0 ∧ Below w.heap.size w wx))
  case atStart => exact ⟨0, rfl, by omega, HT⟩
  case round =>
    obtain ⟨i, rfl, hi, hST⟩ := hrel
    by_cases hlt : i < 11
    · obtain ⟨x, hx⟩ : ∃ x, mb0[i]? = some x := ⟨mb0[i]'hlt, List.getElem?_eq_getElem _⟩
      have hxl : x.length ≤ maxLen := mb_len x (by simp [List.mem_of_getElem? hx])
      obtain ⟨⟨m, D, hm, hown, hD⟩, hS, hb⟩ := hST.out
      have hc := hS.at_ hx
      have hlt' : (i : Int) < 11 := by omega
      have Qi1 : IntKind.i64.wrap ((i : Int) + 1) = (i : Int) + 1 := IntWalk.i64_in _ (by omega)
      have hwl : w.heap.size < wr.heap.size := hown.lt
      have HD := Lib.hid (hD.put x 0 true)
      have HX := Lib.hid hx
      have HXL := Lib.hid hxl
      have HS := Lib.hid hS
      have HBB := Lib.hid hb
      clear hS hb hD hx hST hxl
      go_wp2_with (at_mapUpdate; refine wpList_mapUpdate_own _ rfl _ _ _ 117 rfl 9 171 Tryz.kStr Tryz.underlying117 tkElem _ _ _ rfl hown (by unfold maxLen; omega) _ _ _ rfl rfl (key_str _ HXL.out) _ [] (tkElem_mk _ _) ?_; intro w2 hown2 hgrow2)
      have HN : Hid ((∃ m D, m ≤ 7 + (i + 1) ∧ w2.ownsMap Tryz.prog 9 tkElem w.heap.size m D ∧ TkD D (fun s => if s ∈ mb0.take (i + 1) then some (0, true) else (md7) s)) ∧ SRow w2 ga mb0 ∧ Below w.heap.size w w2) := by
        refine ⟨⟨_, _, by omega, hown2, HD.out.fun_ (take_fun mb0 i x HX.out (0, true) _)⟩, (hgrow2.block ga (Array.getElem?_eq_some_iff.1 HS.out).1 (fun e => by cases e; omega)).trans HS.out, (Below.grownN ⟨HBB.out, Nat.le_refl _, by omega⟩ hgrow2).1⟩
      clear hown hown2 hgrow2 hc
      go_roundg (gk - 1)
      case measure => omega
      case rel => exact ⟨i + 1, rfl, by omega, HN⟩
    · have hlt' : ¬ (i : Int) < 11 := by omega
      obtain rfl : i = 11 := by omega
      clear hlt hi
      have hwl : w.heap.size < wr.heap.size := by
        obtain ⟨⟨m, D, hm, ho, hD⟩, _⟩ := hST.out
        exact ho.lt
      have H1 : Hid (∃ m D, m ≤ 18 ∧ wr.ownsMap Tryz.prog 9 tkElem w.heap.size m D ∧ TkD D (fun s => if s ∈ mb1.take 0 then some (1, true) else (fun s => if s ∈ mb0 then some (0, true) else md7 s) s)) := by
        obtain ⟨⟨m, D, hm, ho, hD⟩, _⟩ := hST.out
        exact ⟨m, D, by omega, ho, hD.fun_ (by funext s; rw [List.take_of_length_le (by decide)]; simp)⟩
      have HB1 : Hid (Below w.heap.size w wr ∧ True) := Lib.hid ⟨hST.out.2.2, trivial⟩
      clear hST

      go_wp2_with fail
      have HS : Hid (SRow (wr.alloc (.cells #[.string ⟨#[109, 111, 118, 101]⟩, .string ⟨#[115, 116, 114, 101, 116, 99, 104]⟩, .string ⟨#[109, 105, 114, 114, 111, 114]⟩, .string ⟨#[116, 117, 114, 110]⟩, .string ⟨#[109, 97, 112]⟩] 9)) wr.heap.size mb1) := heap_alloc_new wr _
      have HT : Hid ((∃ m D, m ≤ 18 + 0 ∧ (wr.alloc (.cells #[.string ⟨#[109, 111, 118, 101]⟩, .string ⟨#[115, 116, 114, 101, 116, 99, 104]⟩, .string ⟨#[109, 105, 114, 114, 111, 114]⟩, .string ⟨#[116, 117, 114, 110]⟩, .string ⟨#[109, 97, 112]⟩] 9)).ownsMap Tryz.prog 9 tkElem w.heap.size m D ∧ TkD D (fun s => if s ∈ mb1.take 0 then some (1, true) else (fun s => if s ∈ mb0 then some (0, true) else md7 s) s)) ∧ SRow (wr.alloc (.cells #[.string ⟨#[109, 111, 118, 101]⟩, .string ⟨#[115, 116, 114, 101, 116, 99, 104]⟩, .string ⟨#[109, 105, 114, 114, 111, 114]⟩, .string ⟨#[116, 117, 114, 110]⟩, .string ⟨#[109, 97, 112]⟩] 9)) wr.heap.size mb1 ∧ Below w.heap.size w (wr.alloc (.cells #[.string ⟨#[109, 111, 118, 101]⟩, .string ⟨#[115, 116, 114, 101, 116, 99, 104]⟩, .string ⟨#[109, 105, 114, 114, 111, 114]⟩, .string ⟨#[116, 117, 114, 110]⟩, .string ⟨#[109, 97, 112]⟩] 9))) := by
        obtain ⟨m, D, h1, h2, h3⟩ := H1.out
        exact ⟨⟨m, D, by omega, h2.alloc _, h3⟩, HS.out, HB1.out.1.alloc HB1.out.1.size _⟩
      obtain ⟨gb, hgb⟩ : ∃ g, wr.heap.size = g := ⟨_, rfl⟩
      rw [hgb] at HT ⊢
      have hltb : w.heap.size < gb := by omega
      clear HS H1 HB1 hgb
      generalize World.alloc wr (.cells #[.string ⟨#[109, 111, 118, 101]⟩, .string ⟨#[115, 116, 114, 101, 116, 99, 104]⟩, .string ⟨#[109, 105, 114, 114, 111, 114]⟩, .string ⟨#[116, 117, 114, 110]⟩, .string ⟨#[109, 97, 112]⟩] 9) = Wb at HT ⊢
      go_loopg [27] 5 (fun g v wx => ∃ i : Nat, v = .int .i64 i ∧ i + g = 5 ∧ Hid ((∃ m D, m ≤ 18 + i ∧ wx.ownsMap Tryz.prog 9 tkElem w.heap.size m D ∧ TkD D (fun s => if s ∈ mb1.take i then some (1, true) else (fun s => if s ∈ mb0 then some (0, true) else md7 s) s)) ∧ SRow wx gb mb1 ∧ Below w.heap.size w wx))
      case atStart => exact ⟨0, rfl, by omega, HT⟩
      case round =>
        obtain ⟨i, rfl, hi, hST⟩ := hrel
        by_cases hlt : i < 5
        · obtain ⟨x, hx⟩ : ∃ x, mb1[i]? = some x := ⟨mb1[i]'hlt, List.getElem?_eq_getElem _⟩
          have hxl : x.length ≤ maxLen := mb_len x (by simp [List.mem_of_getElem? hx])
          obtain ⟨⟨m, D, hm, hown, hD⟩, hS, hb⟩ := hST.out
          have hc := hS.at_ hx
          have hlt' : (i : Int) < 5 := by omega
          have Qi1 : IntKind.i64.wrap ((i : Int) + 1) = (i : Int) + 1 := IntWalk.i64_in _ (by omega)
          have hwl : w.heap.size < wr.heap.size := hown.lt
          have HD := Lib.hid (hD.put x 1 true)
          have HX := Lib.hid hx
          have HXL := Lib.hid hxl
          have HS := Lib.hid hS
          have HBB := Lib.hid hb
          clear hS hb hD hx hST hxl
          go_wp2_with (at_mapUpdate; refine wpList_mapUpdate_own _ rfl _ _ _ 117 rfl 9 171 Tryz.kStr Tryz.underlying117 tkElem _ _ _ rfl hown (by unfold maxLen; omega) _ _ _ rfl rfl (key_str _ HXL.out) _ [] (tkElem_mk _ _) ?_; intro w2 hown2 hgrow2)
          have HN : Hid ((∃ m D, m ≤ 18 + (i + 1) ∧ w2.ownsMap Tryz.prog 9 tkElem w.heap.size m D ∧ TkD D (fun s => if s ∈ mb1.take (i + 1) then some (1, true) else (fun s => if s ∈ mb0 then some (0, true) else md7 s) s)) ∧ SRow w2 gb mb1 ∧ Below w.heap.size w w2) := by
            refine ⟨⟨_, _, by omega, hown2, HD.out.fun_ (take_fun mb1 i x HX.out (1, true) _)⟩, (hgrow2.block gb (Array.getElem?_eq_some_iff.1 HS.out).1 (fun e => by cases e; omega)).trans HS.out, (Below.grownN ⟨HBB.out, Nat.le_refl _, by omega⟩ hgrow2).1⟩
          clear hown hown2 hgrow2 hc
          go_roundg (gk - 1)
          case measure => omega
          case rel => exact ⟨i + 1, rfl, by omega, HN⟩
        · have hlt' : ¬ (i : Int) < 5 := by omega
          obtain rfl : i = 5 := by omega
          clear hlt hi
          go_wp2_with fail
          go_ret
          obtain ⟨m, D, hm, ho, hD⟩ := hST.out.1
          exact ⟨_, rfl, Nat.le_refl _, ⟨m, D, by omega, ho, hD.fun_ (by rw [← md_fun]; funext s; rw [List.take_of_length_le (by decide)])⟩, hST.out.2.2⟩
end Go.Proofs.YtpbkeamjdolpgaaGreatDoor
namespace Go.Proofs.YtpbkeamjdolpgaaGreatDoor
open Go.RowKit Go.Lib
open Go.Maps (Keyed)

/-- Where a walk of a tree lies: its block, the maps of what is built in, of the names missing and called; what it does where something is wrong: nothing, or it ends all. -/
structure SCtx where
  wb : Nat
  fb : Nat
  mb : Nat
  eb : Nat
  cb : Nat
  wf : Nat
  all : Bool
def MayT (Γ : SCtx) (b : Nat) : Prop := b = Γ.wb ∨ b = Γ.eb ∨ b = Γ.cb
/-- m modules' blocks are about this place; what was found. -/
structure WSt (Γ : SCtx) (w : World) (m : Nat) (ev : List Ev) : Prop where
  blk : w.heap[Γ.wb]? = some (.cells #[.map none, .map (some Γ.fb), .map (some Γ.mb), .int .i64 m, .func (.func Γ.wf) #[] #[], .map (some Γ.eb), .map (some Γ.cb)] 121 (0, 0))
  fns : TkMap w Γ.fb (fun s => (fnB s).map (·, false))
  mds : TkMap w Γ.mb mdB
  fre : CntMap w Γ.eb (missE ev)
  cal : CntMap w Γ.cb (calledE ev)
  n1 : Γ.wb ≠ Γ.eb
  n2 : Γ.wb ≠ Γ.cb
  n3 : Γ.eb ≠ Γ.cb
  n4 : ¬ MayT Γ Γ.fb
  n5 : ¬ MayT Γ Γ.mb
theorem WSt.may {Γ : SCtx} {w : World} {m : Nat} {ev : List Ev} (h : WSt Γ w m ev) : ∀ b, MayT Γ b → b < w.heap.size := by
  intro b hb
  rcases hb with rfl | rfl | rfl
  · exact (Array.getElem?_eq_some_iff.1 h.blk).1
  · exact h.fre.lt
  · exact h.cal.lt
theorem WSt.same {Γ : SCtx} {w w' : World} {m : Nat} {ev : List Ev} (h : WSt Γ w m ev) (hk : ∀ k, k < w.heap.size → w'.heap[k]? = w.heap[k]?) : WSt Γ w' m ev :=
  ⟨(hk _ (h.may _ (.inl rfl))).trans h.blk, h.fns.keep (hk _ h.fns.lt), h.mds.keep (hk _ h.mds.lt), h.fre.keep (hk _ h.fre.lt), h.cal.keep (hk _ h.cal.lt), h.n1, h.n2, h.n3, h.n4, h.n5⟩
theorem WSt.below {Γ : SCtx} {w w' : World} {m : Nat} {ev : List Ev} (h : WSt Γ w m ev) (hb : Below w.heap.size w w') : WSt Γ w' m ev := h.same fun k hk => hb.block k hk
theorem WSt.cells {Γ : SCtx} {w : World} {m : Nat} {ev : List Ev} (h : WSt Γ w m ev) : w.cell? ⟨Γ.wb, 0, none⟩ = some (.map none) ∧ w.cell? ⟨Γ.wb, 1, none⟩ = some (.map (some Γ.fb)) ∧ w.cell? ⟨Γ.wb, 2, none⟩ = some (.map (some Γ.mb)) ∧ w.cell? ⟨Γ.wb, 3, none⟩ = some (.int .i64 m) ∧
    w.cell? ⟨Γ.wb, 4, none⟩ = some (.func (.func Γ.wf) #[] #[]) ∧ w.cell? ⟨Γ.wb, 5, none⟩ = some (.map (some Γ.eb)) ∧ w.cell? ⟨Γ.wb, 6, none⟩ = some (.map (some Γ.cb)) ∧ w.frozen? ⟨Γ.wb, 3, none⟩ = false := by
  have hb := h.blk
  refine ⟨?_, ?_, ?_, ?_, ?_, ?_, ?_, ?_⟩ <;> simp [World.cell?, World.frozen?, hb]
/-- A block of the call's own is written. -/
theorem WSt.local {Γ : SCtx} {W w w' : World} {m m0 : Nat} {ev ev0 : List Ev} (h0 : WSt Γ W m0 ev0) (h : WSt Γ w m ev) {b : Nat} (hb : W.heap.size ≤ b) (hk : ∀ k, k ≠ b → w'.heap[k]? = w.heap[k]?) : WSt Γ w' m ev := by
  have g : ∀ k, k < W.heap.size → w'.heap[k]? = w.heap[k]? := fun k hl => hk k (by omega)
  exact ⟨(g _ (h0.may _ (.inl rfl))).trans h.blk, h.fns.keep (g _ h0.fns.lt), h.mds.keep (g _ h0.mds.lt), h.fre.keep (g _ h0.fre.lt), h.cal.keep (g _ h0.cal.lt), h.n1, h.n2, h.n3, h.n4, h.n5⟩
theorem Owp.fresh {P : Nat → Prop} {W w w' : World} (h : Owp P W w) {b : Nat} (hb : W.heap.size ≤ b) (hw : Ow b w w') : Owp P W w' :=
  ⟨hw.os.trans h.os, hw.tape.trans h.tape, hw.output.trans h.output, Nat.le_trans h.size hw.size, fun k hk hn => (hw.block k (Nat.lt_of_lt_of_le hk h.size) (by omega)).trans (h.block k hk hn)⟩
/-- A name is called. -/
theorem WSt.called {Γ : SCtx} {w w' : World} {m : Nat} {ev : List Ev} (h : WSt Γ w m ev) {s : List UInt8} (hg : w.grownBy w' (some Γ.cb)) (hc : CntMap w' Γ.cb (calledE ev ++ [s])) : WSt Γ w' m (ev ++ [.call s]) := by
  have k : ∀ b, b < w.heap.size → b ≠ Γ.cb → w'.heap[b]? = w.heap[b]? := fun b hb hn => hg.block b hb (fun e => by cases e; exact hn rfl)
  refine ⟨(k _ (h.may _ (.inl rfl)) h.n2).trans h.blk, h.fns.keep (k _ h.fns.lt fun e => h.n4 (.inr (.inr e))), h.mds.keep (k _ h.mds.lt fun e => h.n5 (.inr (.inr e))), ?_, ?_, h.n1, h.n2, h.n3, h.n4, h.n5⟩
  · rw [missE_app, show missE [.call s] = [] from rfl, List.append_nil]
    exact h.fre.keep (k _ h.fre.lt h.n3)
  · rw [calledE_app]
    exact hc
/-- A name is missing. -/
theorem WSt.missed {Γ : SCtx} {w w' : World} {m : Nat} {ev : List Ev} (h : WSt Γ w m ev) {s : List UInt8} {p : Int} (hg : w.grownBy w' (some Γ.eb)) (hc : CntMap w' Γ.eb (missE ev ++ [s])) : WSt Γ w' m (ev ++ [.miss s p]) := by
  have k : ∀ b, b < w.heap.size → b ≠ Γ.eb → w'.heap[b]? = w.heap[b]? := fun b hb hn => hg.block b hb (fun e => by cases e; exact hn rfl)
  refine ⟨(k _ (h.may _ (.inl rfl)) h.n1).trans h.blk, h.fns.keep (k _ h.fns.lt fun e => h.n4 (.inr (.inl e))), h.mds.keep (k _ h.mds.lt fun e => h.n5 (.inr (.inl e))), ?_, ?_, h.n1, h.n2, h.n3, h.n4, h.n5⟩
  · rw [missE_app]
    exact hc
  · rw [calledE_app, show calledE [.miss s p] = [] from rfl, List.append_nil]
    exact h.cal.keep (k _ h.cal.lt fun e => h.n3 e.symm)
theorem WSt.badly {Γ : SCtx} {w : World} {m : Nat} {ev : List Ev} (h : WSt Γ w m ev) (c : Int) (s : List UInt8) (p : Int) : WSt Γ w m (ev ++ [.bad c s p]) := by
  refine ⟨h.blk, h.fns, h.mds, ?_, ?_, h.n1, h.n2, h.n3, h.n4, h.n5⟩
  · rw [missE_app, show missE [.bad c s p] = [] from rfl, List.append_nil]
    exact h.fre
  · rw [calledE_app, show calledE [.bad c s p] = [] from rfl, List.append_nil]
    exact h.cal
theorem WSt.nil {Γ : SCtx} {w : World} {m : Nat} {ev : List Ev} (h : WSt Γ w m ev) : WSt Γ w m (ev ++ []) := by rwa [List.append_nil]
/-- A map of names grows: what is known behind it. -/
theorem CntMap.inc {w : World} {b : Nat} {l : List (List UInt8)} (h : CntMap w b l) (hl : l.length < 2 ^ 40) (s : List UInt8) (hs : s.length ≤ maxLen) :
    ∃ c w', (Instr.lookup 119 (.map (some b)) (.string ⟨s.toArray⟩) false).run Tryz.prog w = .ok (.int .i64 c) w ∧ (Instr.mapUpdate 119 (.map (some b)) (.string ⟨s.toArray⟩) (.int .i64 (IntKind.i64.wrap (c + 1)))).run Tryz.prog w = .ok () w' ∧ w.grownBy w' (some b) ∧ CntMap w' b (l ++ [s]) := by
  obtain ⟨D, ho, hD⟩ := h
  obtain ⟨c, h1, _, _⟩ := ho.lookup_int Tryz.kStr Tryz.underlying119 Tryz.underlying3 (Tryz.zeroIntM w) (key_str s hs)
  obtain ⟨w', h2, h3, h4⟩ := ho.update (t := 119) (e := 3) Tryz.kStr Tryz.underlying119 (by unfold maxLen; omega) (key_str s hs) (plainElem_int (H := Unit) Tryz.underlying3 (a := IntKind.i64.wrap (c + 1)) (Go.WideShapes.wf_wrap _ _))
  exact ⟨c, w', h1, h2, h4, _, by simpa using h3, hD.put s _⟩
theorem missE_len : ∀ ev : List Ev, (missE ev).length ≤ ev.length
  | [] => Nat.le_refl _
  | x :: r => by
    have := missE_len r
    cases x <;> simp [missE] <;> omega
theorem calledE_len : ∀ ev : List Ev, (calledE ev).length ≤ ev.length
  | [] => Nat.le_refl _
  | x :: r => by
    have := calledE_len r
    cases x <;> simp [calledE] <;> omega
/-- What is done where something is wrong. -/
def WrongOk (Γ : SCtx) : Prop := (∀ args w, (callFunc Γ.wf args).run Tryz.prog w = .ok (.enter Γ.wf args) w) ∧
  ∀ (k : Int) (n : List UInt8) (y : Option Addr) (len c : Nat) (p : Int) (code : Int) (w : World), Calls Tryz.prog Γ.wf #[.agg #[.int .i64 k, .string ⟨n.toArray⟩, .slice y len c, .int .i64 p], .int .i64 code] w fun e w' =>
    (Γ.all = true ∧ e = .returned (.tuple #[]) ∧ Below w.heap.size w w') ∨
    (Γ.all = false ∧ Below w.heap.size w w' ∧ ∃ b, w.heap.size ≤ b ∧ e = .panicked [{ v := .iface 23 (.pointer (some ⟨b, 0, none⟩)), recovered := false }] ∧ w'.heap[b]? = some (.cells #[.int .i64 code, .int .i64 p, .string ⟨n.toArray⟩] 61 (0, 0)))
/-- The walk goes on. -/
def SOk (Γ : SCtx) (w : World) (m : Nat) (ev evN : List Ev) (w' : World) : Prop := (Γ.all = true ∨ wrongE evN = none) ∧ WSt Γ w' m (ev ++ evN) ∧ Owp (MayT Γ) w w'
/-- It ends at the first thing that is wrong. -/
def SBad (Γ : SCtx) (w : World) (evN : List Ev) (e : Ending) (w' : World) : Prop := Γ.all = false ∧ ∃ c n p b, wrongE evN = some (c, n, p) ∧ w.heap.size ≤ b ∧ e = .panicked [{ v := .iface 23 (.pointer (some ⟨b, 0, none⟩)), recovered := false }] ∧
  w'.heap[b]? = some (.cells #[.int .i64 c, .int .i64 p, .string ⟨n.toArray⟩] 61 (0, 0)) ∧ Owp (MayT Γ) w w'
def SEnd (Γ : SCtx) (w : World) (m : Nat) (ev evN : List Ev) (e : Ending) (w' : World) : Prop := (e = .returned (.tuple #[]) ∧ SOk Γ w m ev evN w') ∨ SBad Γ w evN e w'
def SEndE (Γ : SCtx) (w : World) (m : Nat) (ev evN : List Ev) (ρ : Env) (e : Ending) (w' : World) : Prop := (∃ v, e = .returned v ∧ EnvAt w' (MayT Γ) ρ v ∧ SOk Γ w m ev evN w') ∨ SBad Γ w evN e w'
theorem SOk.start {Γ : SCtx} {w w' : World} {m : Nat} {ev : List Ev} (h : WSt Γ w m ev) (hb : Below w.heap.size w w') : SOk Γ w m ev [] w' := ⟨.inr rfl, (h.below hb).nil, Owp.of_below hb⟩
theorem SOk.trans {Γ : SCtx} {w w1 w2 : World} {m m' : Nat} {ev e1 e2 : List Ev} (h : SOk Γ w m ev e1 w1) (k : SOk Γ w1 m' (ev ++ e1) e2 w2) : SOk Γ w m' ev (e1 ++ e2) w2 := by
  refine ⟨?_, by rw [← List.append_assoc]; exact k.2.1, h.2.2.trans k.2.2⟩
  rcases h.1 with h1 | h1
  · exact .inl h1
  · rcases k.1 with k1 | k1
    · exact .inl k1
    · right
      rw [wrongE_app, h1, k1]
      rfl
theorem SBad.pan {Γ : SCtx} {w w' : World} {e1 : List Ev} {e : Ending} (h : SBad Γ w e1 e w') : ∃ ch, e = .panicked ch := by
  obtain ⟨_, c, n, p, b, _, _, h3, _⟩ := h
  exact ⟨_, h3⟩
theorem SBad.left {Γ : SCtx} {w w' : World} {e1 : List Ev} {e : Ending} (h : SBad Γ w e1 e w') (e2 : List Ev) : SBad Γ w (e1 ++ e2) e w' := by
  obtain ⟨h0, c, n, p, b, h1, h2⟩ := h
  exact ⟨h0, c, n, p, b, by rw [wrongE_app, h1]; rfl, h2⟩
theorem SBad.right {Γ : SCtx} {w w1 w' : World} {m : Nat} {ev e1 e2 : List Ev} {e : Ending} (k : SOk Γ w m ev e1 w1) (h : SBad Γ w1 e2 e w') : SBad Γ w (e1 ++ e2) e w' := by
  obtain ⟨h0, c, n, p, b, h1, h2, h3, h4, h5⟩ := h
  refine ⟨h0, c, n, p, b, ?_, Nat.le_trans k.2.2.size h2, h3, h4, k.2.2.trans h5⟩
  rcases k.1 with k1 | k1
  · rw [h0] at k1
    cases k1
  · rw [wrongE_app, k1, h1]
    rfl
set_option maxHeartbeats 4000000 in
set_option maxRecDepth 100000 in
/-- A name is missing. -/
theorem missing_any (Γ : SCtx) (hw : WrongOk Γ) (m : Nat) (ev : List Ev) (hl : ev.length < 2 ^ 40) (k : Int) (n : List UInt8) (hn : n.length < 2 ^ 40) (y : Option Addr) (len c : Nat) (p : Int) (w : World) (h : WSt Γ w m ev) :
    Calls Tryz.prog 233 #[.pointer (some ⟨Γ.wb, 0, none⟩), .agg #[.int .i64 k, .string ⟨n.toArray⟩, .slice y len c, .int .i64 p]] w (SEnd Γ w m ev [.miss n p]) := by
  have hA : Below w.heap.size w (w.alloc (.cells #[.int .i64 k, .string ⟨n.toArray⟩, .slice y len c, .int .i64 p] 53)) := (Below.refl _ _).alloc (Nat.le_refl _) _
  have HA := Lib.hid hA
  have H0 := Lib.hid h
  have H1 := Lib.hid (h.below hA)
  have HB := Lib.hid (Box4.new w (.int .i64 k) (.string ⟨n.toArray⟩) (.slice y len c) (.int .i64 p))
  have HW := Lib.hid hw
  have HL : Hid ((missE ev).length < 2 ^ 40) := Lib.hid (Nat.lt_of_le_of_lt (missE_len ev) hl)
  have HN : Hid (n.length ≤ maxLen) := by
    show n.length ≤ maxLen
    unfold maxLen
    omega
  clear h hA hw hl hn
  go_enter Tryz.func233, Tryz.ntmps233
  go_upto_region 1 with (fail)
  obtain ⟨a, ha⟩ : ∃ a, w.heap.size = a := ⟨_, rfl⟩
  rw [ha] at HB ⊢
  have HAA := Lib.hid ha
  clear ha
  generalize World.alloc w (.cells #[.int .i64 k, .string ⟨n.toArray⟩, .slice y len c, .int .i64 p] 53) = W at HA H1 HB ⊢
  obtain ⟨x0, x1, x2, x3, xf⟩ := HB.out.facts
  obtain ⟨-, -, -, -, c4, c5, -, -⟩ := H1.out.cells
  obtain ⟨cv, w2, hlook, hupd, hgrow, hcnt⟩ := CntMap.inc (w := W.drew) (b := Γ.eb) (l := missE ev) (H1.out.fre.keep rfl) HL.out n HN.out
  have hal : a ≠ Γ.eb := by
    have := HAA.out
    have := H0.out.fre.lt
    omega
  have H2 : Hid (WSt Γ w2 m (ev ++ [.miss n p])) := Lib.hid (WSt.missed (w := W.drew) (H1.out.same fun _ _ => rfl) hgrow hcnt)
  have HB2 : Hid (Box4 w2 a (.int .i64 k) (.string ⟨n.toArray⟩) (.slice y len c) (.int .i64 p)) := Lib.hid ((hgrow.block a HB.out.lt (fun e => by cases e; exact hal rfl)).trans HB.out)
  have HO2 : Hid (Owp (MayT Γ) w w2) := by
    have h1 : Owp (MayT Γ) w W.drew := Owp.of_below HA.out.drew
    exact h1.trans ⟨hgrow.os, hgrow.tape, hgrow.output, hgrow.size, fun j hj hn => hgrow.block j hj (fun e => by cases e; exact hn (.inr (.inl rfl)))⟩
  clear hcnt hal
  go_still_tail 8, (by kernel_rfl)
  change wpList _ _ _ _ _ (World.drew W)
  go_wp2_with fail
  clear hlook hupd hgrow c4 c5 x0 x1 x2 x3 xf
  obtain ⟨x0, x1, x2, x3, xf⟩ := HB2.out.facts
  obtain ⟨-, -, -, -, c4, -, -, -⟩ := H2.out.cells
  have hw2 := HW.out.2 k n y len c p 280 w2.drew
  have eg := HW.out.1
  go_still_tail 5, (by kernel_rfl)
  change wpList _ _ _ _ _ (World.drew w2)
  have H3 : Hid (WSt Γ w2.drew m (ev ++ [.miss n p])) := Lib.hid (H2.out.same fun _ _ => rfl)
  have HO3 : Hid (Owp (MayT Γ) w w2.drew) := Lib.hid (HO2.out.below (Below.refl _ _).drew)
  generalize World.drew w2 = w3 at *
  go_wp2_with fail
  go_at_fn Γ.wf
  refine hw2.mono ?_
  clear hw2
  rintro e w4 (⟨ha, rfl, hb⟩ | ⟨ha, hb, b, hbl, rfl, hf⟩)
  · have HE : Hid (SOk Γ w m ev [.miss n p] w4) := Lib.hid ⟨.inl ha, H3.out.below hb, HO3.out.below hb⟩
    clear ha hb
    go_wp2_with fail
    go_end0
    exact .inl ⟨rfl, HE.out⟩
  · exact ⟨rfl, .inr ⟨ha, 280, n, p, b, rfl, Nat.le_trans HO3.out.size hbl, rfl, hf, HO3.out.below hb⟩⟩
end Go.Proofs.YtpbkeamjdolpgaaGreatDoor
