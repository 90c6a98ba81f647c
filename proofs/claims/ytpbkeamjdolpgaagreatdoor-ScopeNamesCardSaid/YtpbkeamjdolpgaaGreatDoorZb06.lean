/- Plain: the texts of a list, rising, each once. Plain: what stands by name, and what a walk over a tree finds. What stands by name, in memory: closures. The walks of scope's truth, with, within, and of what they make. Maps that scope makes: what takes how many arguments; names that were met. The walk of scope.rising: a map's names, in order. The walks of scope.functions and scope.modules: what is built in. What scope's walk keeps between two steps, what its methods promise; the walk of its missing. The walk of scope's expressions. The walk of scope's expressions, of any size; of its blocks, by its statements'. The walk of scope's call of a module. The walks of scope's definitions: a function's, a module's. -/
import Derived.Test.YtpbkeamjdolpgaaGreatDoorZb01
import Derived.Laws.EntriesVeiled
import Derived.Maps.OwnOps
import Derived.Maps.OwnSet
import Derived.Maps.Views
import Derived.StringKeys
import Derived.Test.YtpbkeamjdolpgaaGreatDoorShelfS
import Derived.Shelf.Slices.In.SortNone
import Derived.Maps.RangeWalk
import Derived.Sort.KeysCollected
import Derived.Sort.OwnSorted
import Derived.Deep.Cut
import Derived.StillTailTactics
import Derived.WideShapes4
import Derived.Deep.QuietTactic
import Derived.BigQuiet
import Derived.Deep.CutRange
import Derived.Deep.CutBlock
namespace Go.Proofs.YtpbkeamjdolpgaaGreatDoor
def putS : List (List UInt8) → List UInt8 → List (List UInt8)
  | [], s => [s]
  | x :: r, s => if x < s then x :: putS r s else if x = s then x :: r else s :: x :: r
def risL (l : List (List UInt8)) : List (List UInt8) := l.foldl putS []
theorem lt_tri (a b : List UInt8) (h1 : ¬ a < b) (h2 : ¬ a = b) : b < a := by
  refine Decidable.byContradiction fun h3 => h2 (List.le_antisymm ?_ ?_)
  · exact h3
  · exact h1
theorem putS_mem : ∀ (l : List (List UInt8)) (s x : List UInt8), x ∈ putS l s ↔ x = s ∨ x ∈ l
  | [], s, x => by simp [putS]
  | y :: r, s, x => by
    rw [putS]
    split
    · rw [List.mem_cons, putS_mem r s x, List.mem_cons]
      constructor
      · rintro (h | h | h) <;> simp [h]
      · rintro (h | h | h) <;> simp [h]
    · split
      · next h1 h2 =>
        subst h2
        rw [List.mem_cons]
        constructor
        · exact fun h => .inr h
        · rintro (h | h)
          · exact .inl h
          · exact h
      · simp
theorem putS_rise : ∀ (l : List (List UInt8)) (s : List UInt8), l.Pairwise (· < ·) → (putS l s).Pairwise (· < ·)
  | [], s, _ => by simp [putS]
  | y :: r, s, h => by
    rw [putS]
    obtain ⟨h1, h2⟩ := List.pairwise_cons.1 h
    split
    · next hl =>
      refine List.pairwise_cons.2 ⟨fun a ha => ?_, putS_rise r s h2⟩
      rcases (putS_mem r s a).1 ha with rfl | ha
      · exact hl
      · exact h1 a ha
    · split
      · exact h
      · next hl hne =>
        have hlt := lt_tri y s hl hne
        refine List.pairwise_cons.2 ⟨fun a ha => ?_, h⟩
        rcases List.mem_cons.1 ha with rfl | ha
        · exact hlt
        · exact List.lt_trans hlt (h1 a ha)
theorem foldS : ∀ (l a : List (List UInt8)), a.Pairwise (· < ·) → (l.foldl putS a).Pairwise (· < ·) ∧ ∀ x, x ∈ l.foldl putS a ↔ x ∈ l ∨ x ∈ a
  | [], a, h => ⟨h, fun x => by simp⟩
  | s :: r, a, h => by
    obtain ⟨h1, h2⟩ := foldS r (putS a s) (putS_rise a s h)
    refine ⟨h1, fun x => ?_⟩
    rw [List.foldl_cons, h2 x, putS_mem, List.mem_cons]
    constructor
    · rintro (h | h | h) <;> simp [h]
    · rintro ((h | h) | h) <;> simp [h]
theorem risL_rise (l : List (List UInt8)) : (risL l).Pairwise (· < ·) := (foldS l [] .nil).1
theorem risL_mem (l : List (List UInt8)) (x : List UInt8) : x ∈ risL l ↔ x ∈ l := by
  rw [risL, (foldS l [] .nil).2 x]
  simp
theorem rise_eq {a b : List (List UInt8)} (ha : a.Pairwise (· < ·)) (hb : b.Pairwise (· < ·)) (h : ∀ x, x ∈ a ↔ x ∈ b) : a = b := by
  have na : a.Nodup := ha.imp fun h e => by subst e; exact List.lt_irrefl _ h
  have nb : b.Nodup := hb.imp fun h e => by subst e; exact List.lt_irrefl _ h
  exact ((List.perm_ext_iff_of_nodup na nb).2 h).eq_of_pairwise (le := fun a b => a < b) (fun x y _ _ h1 h2 => (List.lt_irrefl _ (List.lt_trans h1 h2)).elim) ha hb
theorem sort_ris {ss l : List (List UInt8)} (hn : ss.Nodup) (h : ∀ x, x ∈ ss ↔ x ∈ l) : ss.mergeSort (fun x y => decide (x ≤ y)) = risL l := by
  have tr : ∀ a b c : List UInt8, decide (a ≤ b) = true → decide (b ≤ c) = true → decide (a ≤ c) = true := fun a b c h1 h2 => by simp only [decide_eq_true_eq] at *; exact List.le_trans h1 h2
  have tot : ∀ a b : List UInt8, (decide (a ≤ b) || decide (b ≤ a)) = true := fun a b => by simp only [Bool.or_eq_true, decide_eq_true_eq]; exact List.le_total a b
  have hp := List.mergeSort_perm ss (fun x y => decide (x ≤ y))
  refine rise_eq ?_ (risL_rise l) fun x => by rw [hp.mem_iff, h x, risL_mem]
  have h1 := List.pairwise_mergeSort tr tot ss
  have h2 : (ss.mergeSort (fun x y => decide (x ≤ y))).Pairwise (· ≠ ·) := hp.nodup_iff.2 hn
  refine (h1.and h2).imp fun {a b} hab => ?_
  obtain ⟨h3, h4⟩ := hab
  simp only [decide_eq_true_eq] at h3
  exact Decidable.byContradiction fun h5 => h4 (List.le_antisymm h3 h5)
end Go.Proofs.YtpbkeamjdolpgaaGreatDoor
namespace Go.Proofs.YtpbkeamjdolpgaaGreatDoor

abbrev Env := List (Option (Nat × List UInt8 × Nat))
def findE : Env → Nat → List UInt8 → Bool → Option Nat
  | [], _, _, _ => none
  | some (k', s', a) :: r, k, s, own => if k = k' ∧ s = s' then some a else findE r k s own
  | none :: r, k, s, own => if own then none else findE r k s false
def wTrue : List UInt8 := [116, 114, 117, 101]
def wFalse : List UInt8 := [102, 97, 108, 115, 101]
def wChildren : List UInt8 := [99, 104, 105, 108, 100, 114, 101, 110]
def truthB (s : List UInt8) : Bool := decide (s = wTrue) || decide (s = wFalse)
def fn1 : List (List UInt8) := [[108, 101, 110], [97, 98, 115], [102, 108, 111, 111, 114], [109, 105, 110], [109, 97, 120]]
def fn2 : List (List UInt8) := [[114, 97, 110, 103, 101]]
def md0 : List (List UInt8) := [[101, 109, 112, 116, 121], [102, 117, 108, 108], [99, 104, 105, 108, 100, 114, 101, 110]]
def md1 : List (List UInt8) := [[100, 111, 116, 115]]
def md2 : List (List UInt8) := [[104, 97, 108, 102], [98, 111, 120], [100, 105, 97, 109, 111, 110, 100]]
def mb0 : List (List UInt8) := [[117, 110, 105, 111, 110], [105, 110, 116, 101, 114, 115, 101, 99, 116, 105, 111, 110], [100, 105, 102, 102, 101, 114, 101, 110, 99, 101], [120, 111, 114], [104, 117, 108, 108], [109, 105, 110, 107, 111, 119, 115, 107, 105], [99, 111, 109, 112, 108, 101, 109, 101, 110, 116], [105, 110, 116, 101, 114, 105, 111, 114], [99, 108, 111, 115, 117, 114, 101], [98, 111, 117, 110, 100, 97, 114, 121], [114, 101, 103, 117, 108, 97, 114]]
def mb1 : List (List UInt8) := [[109, 111, 118, 101], [115, 116, 114, 101, 116, 99, 104], [109, 105, 114, 114, 111, 114], [116, 117, 114, 110], [109, 97, 112]]
def fnB (s : List UInt8) : Option Nat := if s ∈ fn1 then some 1 else if s ∈ fn2 then some 2 else none
def mdB (s : List UInt8) : Option (Nat × Bool) :=
  if s ∈ md0 then some (0, false) else if s ∈ md1 then some (1, false) else if s ∈ md2 then some (2, false) else if s ∈ mb0 then some (0, true) else if s ∈ mb1 then some (1, true) else none
inductive Ev where
  | call (n : List UInt8)
  | miss (n : List UInt8) (p : Int)
  | bad (c : Int) (n : List UInt8) (p : Int)
def argc : List Nd → Nat
  | [] => 0
  | .mk _ _ l _ :: _ => l.length
def bodyOf : List Nd → List Nd
  | [] => []
  | .mk _ _ l _ :: _ => l
def exprE (ρ : Env) (k : Int) (n : List UInt8) (kids : List Nd) (p : Int) : List Ev :=
  if k = 10 then (if (findE ρ 0 n false).isNone && !truthB n then [.miss n p] else [])
  else if k = 13 then .call n :: (match (findE ρ 1 n false).or (fnB n) with
    | none => [.miss n p]
    | some a => if argc kids = a then [] else [.bad 281 n p])
  else []
mutual
def evE (ρ : Env) : Nd → List Ev
  | .mk k n kids p => exprE ρ k n kids p ++ evEs ρ kids
def evEs (ρ : Env) : List Nd → List Ev
  | [] => []
  | x :: r => evE ρ x ++ evEs ρ r
end
def dupE (ρ : Env) (n : List UInt8) (p : Int) : List Ev := if (findE ρ 0 n true).isSome || truthB n then [.bad 280 n p] else []
def defE (ρ : Env) (k : Nat) (n : List UInt8) (p : Int) : List Ev := if (if k = 1 then (fnB n).isSome else (mdB n).isSome) || (findE ρ k n true).isSome then [.bad 280 n p] else []
def parE : Env → List Nd → List Ev
  | _, [] => []
  | ρ, .mk _ n _ p :: r => dupE ρ n p ++ parE (some (0, n, 0) :: ρ) r
def parV : Env → List Nd → Env
  | ρ, [] => ρ
  | ρ, .mk _ n _ _ :: r => parV (some (0, n, 0) :: ρ) r
def callE (ρ : Env) (m : Nat) (n : List UInt8) (kids : List Nd) (p : Int) : List Ev :=
  .call n :: (match ((findE ρ 2 n false).map fun a => (a, true)).or (if n = wChildren ∧ m = 0 then none else mdB n) with
    | none => [.miss n p]
    | some (a, bl) => if argc kids ≠ a ∨ (1 < kids.length ∧ bl = false) then [.bad 281 n p] else [])
def envS (ρ : Env) : Nd → Env
  | .mk k n kids _ => if k = 1 then some (0, n, 0) :: ρ else if k = 2 then some (2, n, argc kids) :: ρ else if k = 3 then some (1, n, argc kids) :: ρ else ρ
mutual
def evS : Nd → Env → Nat → List Ev
  | .mk k n kids p, ρ, m => if k = 1 then dupE ρ n p ++ evEs ρ kids else if k = 2 then defE ρ 2 n p ++ parE (none :: some (2, n, argc kids) :: ρ) (bodyOf kids) ++ evT kids (parV (none :: some (2, n, argc kids) :: ρ) (bodyOf kids)) (m + 1)
      else if k = 3 then defE ρ 1 n p ++ parE (none :: some (1, n, argc kids) :: ρ) (bodyOf kids) ++ evEs (parV (none :: some (1, n, argc kids) :: ρ) (bodyOf kids)) kids.tail
      else if k = 5 then (if truthB n then [.bad 280 n p] else []) ++ evEs ρ (kids.take 1) ++ evT kids (some (0, n, 0) :: ρ) m
      else if k = 6 then evEs ρ (kids.take 1) ++ evT kids ρ m
      else callE ρ m n kids p ++ evEs ρ (bodyOf kids) ++ evT kids ρ m
def evT : List Nd → Env → Nat → List Ev
  | [], _, _ => []
  | _ :: r, ρ, m => evBs r ρ m
def evBs : List Nd → Env → Nat → List Ev
  | [], _, _ => []
  | x :: r, ρ, m => evB x ρ m ++ evBs r ρ m
def evB : Nd → Env → Nat → List Ev
  | .mk _ _ l _, ρ, m => evSs l (none :: ρ) m
def evSs : List Nd → Env → Nat → List Ev
  | [], _, _ => []
  | x :: r, ρ, m => evS x ρ m ++ evSs r (envS ρ x) m
end
def evX (l : List Nd) : List Ev := evSs l [none] 0
def wrongE : List Ev → Option (Int × List UInt8 × Int)
  | [] => none
  | .call _ :: r => wrongE r
  | .miss n p :: _ => some (280, n, p)
  | .bad c n p :: _ => some (c, n, p)
def missE : List Ev → List (List UInt8)
  | [] => []
  | .miss n _ :: r => n :: missE r
  | _ :: r => missE r
def calledE : List Ev → List (List UInt8)
  | [] => []
  | .call n :: r => n :: calledE r
  | _ :: r => calledE r
theorem wrongE_app (a b : List Ev) : wrongE (a ++ b) = (wrongE a).or (wrongE b) := by
  induction a with
  | nil => simp [wrongE]
  | cons x r ih => cases x <;> simp [wrongE, ih]
theorem missE_app (a b : List Ev) : missE (a ++ b) = missE a ++ missE b := by
  induction a with
  | nil => rfl
  | cons x r ih => cases x <;> simp [missE, ih]
theorem calledE_app (a b : List Ev) : calledE (a ++ b) = calledE a ++ calledE b := by
  induction a with
  | nil => rfl
  | cons x r ih => cases x <;> simp [calledE, ih]
end Go.Proofs.YtpbkeamjdolpgaaGreatDoor
namespace Go.Proofs.YtpbkeamjdolpgaaGreatDoor
open Go.RowKit Go.Lib

structure Owp (P : Nat → Prop) (w w' : World) : Prop where
  os : w'.os = w.os
  tape : w'.tape = w.tape
  output : w'.output = w.output
  size : w.heap.size ≤ w'.heap.size
  block : ∀ k, k < w.heap.size → ¬ P k → w'.heap[k]? = w.heap[k]?
theorem Owp.refl (P : Nat → Prop) (w : World) : Owp P w w := ⟨rfl, rfl, rfl, Nat.le_refl _, fun _ _ _ => rfl⟩
theorem Owp.trans {P : Nat → Prop} {w w1 w2 : World} (h : Owp P w w1) (k : Owp P w1 w2) : Owp P w w2 :=
  ⟨k.os.trans h.os, k.tape.trans h.tape, k.output.trans h.output, Nat.le_trans h.size k.size, fun i hi hn => (k.block i (Nat.lt_of_lt_of_le hi h.size) hn).trans (h.block i hi hn)⟩
theorem Owp.of_below {P : Nat → Prop} {w w' : World} (h : Below w.heap.size w w') : Owp P w w' := ⟨h.os, h.tape, h.output, h.size, fun k hk _ => h.block k hk⟩
theorem Owp.below {P : Nat → Prop} {w w1 w2 : World} (h : Owp P w w1) (k : Below w1.heap.size w1 w2) : Owp P w w2 := h.trans (Owp.of_below k)
theorem Owp.cell {P : Nat → Prop} {w w' : World} (h : Owp P w w') {p : Addr} {v : Value} (hn : ¬ P p.block) (hc : w.cell? p = some v) : w'.cell? p = some v :=
  (World.cell?_of_block (h.block p.block (World.block_lt_of_cell? w p hc) hn)).trans hc
theorem Owp.keep {P : Nat → Prop} {w w' : World} (h : Owp P w w') {k : Nat} {o : Obj} (hn : ¬ P k) (hk : w.heap[k]? = some o) : w'.heap[k]? = some o :=
  (h.block k (Array.getElem?_eq_some_iff.1 hk).1 hn).trans hk

def EnvAt (w : World) (P : Nat → Prop) : Env → Value → Prop
  | [], v => v = .func (.func 135) #[] #[]
  | none :: r, v => ∃ b u, v = .func (.func 202) #[] #[.pointer (some ⟨b, 0, none⟩)] ∧ ¬ P b ∧ w.heap[b]? = some (.cells #[u] 210 (0, 0)) ∧ EnvAt w P r u
  | some (k, s, a) :: r, v => ∃ bk bs bt bn u, v = .func (.func 234) #[] #[.pointer (some ⟨bk, 0, none⟩), .pointer (some ⟨bs, 0, none⟩), .pointer (some ⟨bt, 0, none⟩), .pointer (some ⟨bn, 0, none⟩)] ∧
      (¬ P bk ∧ ¬ P bs ∧ ¬ P bt ∧ ¬ P bn) ∧ w.heap[bk]? = some (.cells #[.int .i64 k] 3 (0, 0)) ∧ w.heap[bs]? = some (.cells #[.string ⟨s.toArray⟩] 9 (0, 0)) ∧
      w.heap[bt]? = some (.cells #[.int .i64 a, .bool (decide (k = 2))] 171 (0, 0)) ∧ w.heap[bn]? = some (.cells #[u] 210 (0, 0)) ∧ EnvAt w P r u
theorem EnvAt.owp {P : Nat → Prop} {w w' : World} (ho : Owp P w w') : ∀ {ρ : Env} {v : Value}, EnvAt w P ρ v → EnvAt w' P ρ v
  | [], _, h => h
  | none :: r, _, h => by
    obtain ⟨b, u, rfl, h1, h2, h3⟩ := h
    exact ⟨b, u, rfl, h1, ho.keep h1 h2, EnvAt.owp ho h3⟩
  | some (k, s, a) :: r, _, h => by
    obtain ⟨bk, bs, bt, bn, u, rfl, ⟨n1, n2, n3, n4⟩, h1, h2, h3, h4, h5⟩ := h
    exact ⟨bk, bs, bt, bn, u, rfl, ⟨n1, n2, n3, n4⟩, ho.keep n1 h1, ho.keep n2 h2, ho.keep n3 h3, ho.keep n4 h4, EnvAt.owp ho h5⟩
theorem EnvAt.below {P : Nat → Prop} {w w' : World} {ρ : Env} {v : Value} (h : EnvAt w P ρ v) (hb : Below w.heap.size w w') : EnvAt w' P ρ v := h.owp (Owp.of_below hb)
def tkA (ρ : Env) (k : Nat) (s : List UInt8) (own : Bool) : Nat := (findE ρ k s own).getD 0
def tkB (ρ : Env) (k : Nat) (s : List UInt8) (own : Bool) : Bool := (findE ρ k s own).isSome && decide (k = 2)
def TkEnd (ρ : Env) (k : Nat) (s : List UInt8) (own : Bool) (w : World) (e : Ending) (w' : World) : Prop :=
  e = .returned (.tuple #[.agg #[.int .i64 (tkA ρ k s own), .bool (tkB ρ k s own)], .bool (findE ρ k s own).isSome]) ∧ Below w.heap.size w w'
theorem ret_tk {R : Ending → World → Prop} {fn : Func} {p q : Tmp} (hr : fn.results = #[.cell p 171, .tmp q]) {a : Act} {w : World} {g : Nat} {v0 v1 v : Value} (hp : a.tmps.getD p undef = .pointer (some ⟨g, 0, none⟩)) (hq : a.tmps.getD q undef = v) (hd : a.defers = [])
    (c0 : w.cell? ⟨g, 0, none⟩ = some v0) (c1 : w.cell? ⟨g, 1, none⟩ = some v1) (h : R (.returned (.tuple #[.agg #[v0, v1], v])) w) : bodyPost Tryz.prog fn R .ret a w := by
  have hp' : a.tmps[p]?.getD undef = .pointer (some ⟨g, 0, none⟩) := by simpa using hp
  have hq' : a.tmps[q]?.getD undef = v := by simpa using hq
  exact bodyPost_ret (v := .tuple #[.agg #[v0, v1], v]) (by simp [results, hr, hp', hq', go_sem, c0, c1]) hd h

theorem truth_any (s : List UInt8) (w : World) : Calls Tryz.prog 203 #[.string ⟨s.toArray⟩] w fun e w' => e = .returned (.bool (truthB s)) ∧ w = w' := by
  by_cases h1 : s = wTrue
  · subst h1
    go_enter Tryz.func203, Tryz.ntmps203
    go_wp2
    go_ret
    exact ⟨rfl, rfl⟩
  · by_cases h2 : s = wFalse
    · subst h2
      go_enter Tryz.func203, Tryz.ntmps203
      go_wp2
      go_ret
      exact ⟨rfl, rfl⟩
    · have Q1 := str_ne h1
      have Q2 := str_ne h2
      have H : truthB s = false := by simp [truthB, h1, h2]
      rw [H]
      clear H h1 h2
      unfold wTrue at Q1
      unfold wFalse at Q2
      go_enter Tryz.func203, Tryz.ntmps203
      go_wp2
      go_ret
      exact ⟨rfl, rfl⟩
set_option maxHeartbeats 1000000 in
theorem none_any (k : Nat) (s : List UInt8) (own : Bool) (w : World) : Calls Tryz.prog 135 #[.int .i64 k, .string ⟨s.toArray⟩, .bool own] w (TkEnd [] k s own w) := by
  have hF : Hid (tkA [] k s own = 0 ∧ tkB [] k s own = false ∧ (findE [] k s own).isSome = false) := ⟨rfl, rfl, rfl⟩
  go_enter Tryz.func135, Tryz.ntmps135
  go_wp2
  refine ret_tk rfl rfl rfl rfl (by simp [go_sem]; rfl) (by simp [go_sem]; rfl) ⟨by rw [hF.out.1, hF.out.2.1, hF.out.2.2]; rfl, ?_⟩
  exact (Below.refl _ _).alloc (Nat.le_refl _) _
def EnvCall (w : World) (ρ : Env) (v : Value) : Prop := ∃ F cap, v = .func (.func F) #[] cap ∧ (∀ args w, (callFunc F args).run Tryz.prog w = .ok (.enter F args) w) ∧
  ∀ (k : Nat) (s : List UInt8) (own : Bool), Calls Tryz.prog F (#[.int .i64 k, .string ⟨s.toArray⟩, .bool own] ++ cap) w (TkEnd ρ k s own w)
theorem Box2.new (w : World) (a b : Value) : (w.alloc (.cells #[a, b] 171)).heap[w.heap.size]? = some (.cells #[a, b] 171 (0, 0)) := heap_alloc_new w _
set_option maxHeartbeats 4000000 in
set_option maxRecDepth 100000 in
theorem env_any (P : Nat → Prop) : ∀ (ρ : Env) (v : Value) (w : World), EnvAt w P ρ v → EnvCall w ρ v
  | [], v, w, h => by
    obtain rfl : v = _ := h
    exact ⟨_, #[], rfl, enters_of Tryz.func135 (by kernel_rfl) rfl, fun k s own => by simpa using none_any k s own w⟩
  | none :: r, v, w, h => by
    obtain ⟨b, u, rfl, hb, h1, h2⟩ := h
    refine ⟨_, _, rfl, enters_of Tryz.func202 (by kernel_rfl) rfl, fun k s own => ?_⟩
    have hA : Below w.heap.size w (w.alloc (.cells #[.int .i64 0, .bool false] 171)) := (Below.refl _ _).alloc (Nat.le_refl _) _
    obtain ⟨F, cap, rfl, eg, hc⟩ := env_any P r u _ (h2.below hA)
    have c0 := hc k s false
    have l0 : ∀ o, (w.alloc o).cell? ⟨b, 0, none⟩ = some (.func (.func F) #[] cap) := fun o => al_cell (by simp [World.cell?, h1]) o
    have HA := Lib.hid hA
    clear hc h1 h2 hA hb
    cases own
    · have e1 : tkA (none :: r) k s false = tkA r k s false := rfl
      have e2 : tkB (none :: r) k s false = tkB r k s false := rfl
      have e3 : findE (none :: r) k s false = findE r k s false := rfl
      unfold TkEnd at c0 ⊢
      rw [e1, e2, e3]
      obtain ⟨x, hx⟩ : ∃ x, tkA r k s false = x := ⟨_, rfl⟩
      obtain ⟨y, hy⟩ : ∃ y, tkB r k s false = y := ⟨_, rfl⟩
      obtain ⟨z, hz⟩ : ∃ z, (findE r k s false).isSome = z := ⟨_, rfl⟩
      rw [hx, hy, hz] at c0 ⊢
      clear e1 e2 e3 hx hy hz
      simp only [List.append_toArray, List.cons_append, List.nil_append]
      go_enter Tryz.func202, Tryz.ntmps202
      go_wp2_with fail
      go_at_fn F
      refine c0.mono ?_
      clear c0
      rintro e w1 ⟨rfl, hb1⟩
      have HB1 := Lib.hid (tr HA.out hb1)
      have g := (hb1.block w.heap.size (by simp)).trans (heap_alloc_new w _)
      have z0 : w1.cell? ⟨w.heap.size, 0, none⟩ = some (.int .i64 0) := by simp [World.cell?, g]
      have z1 : w1.cell? ⟨w.heap.size, 1, none⟩ = some (.bool false) := by simp [World.cell?, g]
      have zf : ∀ o, w1.frozen? ⟨w.heap.size, o, none⟩ = false := fun o => by simp only [World.frozen?, g]; simp
      clear hb1 g
      go_wp2_with fail
      refine ret_tk rfl rfl rfl rfl (by simp [go_sem, z0]) (by simp [go_sem, z1]) ⟨rfl, ?_⟩
      exact (HB1.out.setCell (p := ⟨w.heap.size, 0, none⟩) (Nat.le_refl _) _).setCell (p := ⟨w.heap.size, 1, none⟩) (Nat.le_refl _) _
    · have hF : Hid (tkA (none :: r) k s true = 0 ∧ tkB (none :: r) k s true = false ∧ (findE (none :: r) k s true).isSome = false) := ⟨rfl, rfl, rfl⟩
      clear c0
      simp only [List.append_toArray, List.cons_append, List.nil_append]
      go_enter Tryz.func202, Tryz.ntmps202
      go_wp2_with fail
      refine ret_tk rfl rfl rfl rfl (by simp [go_sem]; rfl) (by simp [go_sem]; rfl) ⟨by rw [hF.out.1, hF.out.2.1, hF.out.2.2]; rfl, ?_⟩
      exact HA.out
  | some (k', s', a') :: r, v, w, h => by
    obtain ⟨bk, bs, bt, bn, u, rfl, -, h1, h2, h3, h4, h5⟩ := h
    refine ⟨_, _, rfl, enters_of Tryz.func234 (by kernel_rfl) rfl, fun k s own => ?_⟩
    have hA : Below w.heap.size w (w.alloc (.cells #[.int .i64 0, .bool false] 171)) := (Below.refl _ _).alloc (Nat.le_refl _) _
    obtain ⟨F, cap, rfl, eg, hc⟩ := env_any P r u _ (h5.below hA)
    have c0 := hc k s own
    have l1 : ∀ o, (w.alloc o).cell? ⟨bk, 0, none⟩ = some (.int .i64 k') := fun o => al_cell (by simp [World.cell?, h1]) o
    have l2 : ∀ o, (w.alloc o).cell? ⟨bs, 0, none⟩ = some (.string ⟨s'.toArray⟩) := fun o => al_cell (by simp [World.cell?, h2]) o
    have l3 : ∀ o, (w.alloc o).cell? ⟨bt, 0, none⟩ = some (.int .i64 a') := fun o => al_cell (by simp [World.cell?, h3]) o
    have l4 : ∀ o, (w.alloc o).cell? ⟨bt, 1, none⟩ = some (.bool (decide (k' = 2))) := fun o => al_cell (by simp [World.cell?, h3]) o
    have l5 : ∀ o, (w.alloc o).cell? ⟨bn, 0, none⟩ = some (.func (.func F) #[] cap) := fun o => al_cell (by simp [World.cell?, h4]) o
    have HA := Lib.hid hA
    clear hc h1 h2 h3 h4 h5 hA
    by_cases hk : k = k'
    · subst hk
      by_cases hs : s = s'
      · subst hs
        have hF : Hid (tkA (some (k, s, a') :: r) k s own = a' ∧ tkB (some (k, s, a') :: r) k s own = decide (k = 2) ∧ (findE (some (k, s, a') :: r) k s own).isSome = true) := ⟨by simp [tkA, findE], by simp [tkB, findE], by simp [findE]⟩
        obtain ⟨B, hB⟩ : ∃ B, decide (k = 2) = B := ⟨_, rfl⟩
        rw [hB] at l4
        have HBB := Lib.hid hB
        clear c0 hB
        simp only [List.append_toArray, List.cons_append, List.nil_append]
        go_enter Tryz.func234, Tryz.ntmps234
        go_wp2_with fail
        refine ret_tk (v := .bool true) rfl rfl rfl rfl (by simp [go_sem]; rfl) (by simp [go_sem]; rfl) ⟨by rw [hF.out.1, hF.out.2.1, hF.out.2.2, HBB.out], ?_⟩
        exact (Below.refl _ _).alloc (Nat.le_refl _) _
      · have hno : findE (some (k, s', a') :: r) k s own = findE r k s own := by simp [findE, hs]
        have Q1 := str_ne hs
        clear hs
        unfold TkEnd at c0 ⊢
        rw [show tkA (some (k, s', a') :: r) k s own = tkA r k s own by unfold tkA; rw [hno], show tkB (some (k, s', a') :: r) k s own = tkB r k s own by unfold tkB; rw [hno], hno]
        obtain ⟨x, hx⟩ : ∃ x, tkA r k s own = x := ⟨_, rfl⟩
        obtain ⟨y, hy⟩ : ∃ y, tkB r k s own = y := ⟨_, rfl⟩
        obtain ⟨z, hz⟩ : ∃ z, (findE r k s own).isSome = z := ⟨_, rfl⟩
        rw [hx, hy, hz] at c0 ⊢
        clear hx hy hz hno
        simp only [List.append_toArray, List.cons_append, List.nil_append]
        go_enter Tryz.func234, Tryz.ntmps234
        go_wp2_with fail
        go_at_fn F
        refine c0.mono ?_
        clear c0
        rintro e w1 ⟨rfl, hb1⟩
        have HB1 := Lib.hid (tr HA.out hb1)
        have g := (hb1.block w.heap.size (by simp)).trans (heap_alloc_new w _)
        have z0 : w1.cell? ⟨w.heap.size, 0, none⟩ = some (.int .i64 0) := by simp [World.cell?, g]
        have z1 : w1.cell? ⟨w.heap.size, 1, none⟩ = some (.bool false) := by simp [World.cell?, g]
        have zf : ∀ o, w1.frozen? ⟨w.heap.size, o, none⟩ = false := fun o => by simp only [World.frozen?, g]; simp
        clear hb1 g
        go_wp2_with fail
        refine ret_tk rfl rfl rfl rfl (by simp [go_sem, z0]) (by simp [go_sem, z1]) ⟨rfl, ?_⟩
        exact (HB1.out.setCell (p := ⟨w.heap.size, 0, none⟩) (Nat.le_refl _) _).setCell (p := ⟨w.heap.size, 1, none⟩) (Nat.le_refl _) _
    · have hno : findE (some (k', s', a') :: r) k s own = findE r k s own := by simp [findE, hk]
      have Q1 : ((k : Int) == (k' : Int)) = false := beq_eq_false_iff_ne.2 (by omega)
      clear hk
      unfold TkEnd at c0 ⊢
      rw [show tkA (some (k', s', a') :: r) k s own = tkA r k s own by unfold tkA; rw [hno], show tkB (some (k', s', a') :: r) k s own = tkB r k s own by unfold tkB; rw [hno], hno]
      obtain ⟨x, hx⟩ : ∃ x, tkA r k s own = x := ⟨_, rfl⟩
      obtain ⟨y, hy⟩ : ∃ y, tkB r k s own = y := ⟨_, rfl⟩
      obtain ⟨z, hz⟩ : ∃ z, (findE r k s own).isSome = z := ⟨_, rfl⟩
      rw [hx, hy, hz] at c0 ⊢
      clear hx hy hz hno
      simp only [List.append_toArray, List.cons_append, List.nil_append]
      go_enter Tryz.func234, Tryz.ntmps234
      go_wp2_with fail
      go_at_fn F
      refine c0.mono ?_
      clear c0
      rintro e w1 ⟨rfl, hb1⟩
      have HB1 := Lib.hid (tr HA.out hb1)
      have g := (hb1.block w.heap.size (by simp)).trans (heap_alloc_new w _)
      have z0 : w1.cell? ⟨w.heap.size, 0, none⟩ = some (.int .i64 0) := by simp [World.cell?, g]
      have z1 : w1.cell? ⟨w.heap.size, 1, none⟩ = some (.bool false) := by simp [World.cell?, g]
      have zf : ∀ o, w1.frozen? ⟨w.heap.size, o, none⟩ = false := fun o => by simp only [World.frozen?, g]; simp
      clear hb1 g
      go_wp2_with fail
      refine ret_tk rfl rfl rfl rfl (by simp [go_sem, z0]) (by simp [go_sem, z1]) ⟨rfl, ?_⟩
      exact (HB1.out.setCell (p := ⟨w.heap.size, 0, none⟩) (Nat.le_refl _) _).setCell (p := ⟨w.heap.size, 1, none⟩) (Nat.le_refl _) _
theorem heap4 (w : World) (a b c d : Obj) : (((((w.alloc a).alloc b).alloc c).alloc d).heap[w.heap.size]? = some a) ∧ (((((w.alloc a).alloc b).alloc c).alloc d).heap[w.heap.size + 1]? = some b) ∧ (((((w.alloc a).alloc b).alloc c).alloc d).heap[w.heap.size + 2]? = some c) ∧ (((((w.alloc a).alloc b).alloc c).alloc d).heap[w.heap.size + 3]? = some d) := by
  have s1 := World.size_alloc w a
  have s2 := World.size_alloc (w.alloc a) b
  have s3 := World.size_alloc ((w.alloc a).alloc b) c
  refine ⟨?_, ?_, ?_, ?_⟩
  · rw [Below.heap_alloc _ _ _ (by omega), Below.heap_alloc _ _ _ (by omega), Below.heap_alloc _ _ _ (by omega)]
    exact heap_alloc_new w a
  · rw [Below.heap_alloc _ _ _ (by omega), Below.heap_alloc _ _ _ (by omega)]
    have := heap_alloc_new (w.alloc a) b
    rwa [s1] at this
  · rw [Below.heap_alloc _ _ _ (by omega)]
    have := heap_alloc_new ((w.alloc a).alloc b) c
    rwa [s2, s1] at this
  · have := heap_alloc_new (((w.alloc a).alloc b).alloc c) d
    rwa [s3, s2, s1] at this
theorem with_any (P : Nat → Prop) (ρ : Env) (v : Value) (k : Nat) (s : List UInt8) (a : Nat) (B : Bool) (hB : B = decide (k = 2)) (w : World) (h : EnvAt w P ρ v) (hP : ∀ b, P b → b < w.heap.size) :
    Calls Tryz.prog 205 #[v, .int .i64 k, .string ⟨s.toArray⟩, .agg #[.int .i64 a, .bool B]] w fun e w' => ∃ v', e = .returned v' ∧ EnvAt w' P (some (k, s, a) :: ρ) v' ∧ Below w.heap.size w w' := by
  have hmf : ∀ (fn : Fn) (first cap : Array Value) (w : World), (Instr.makeFunc fn first cap).run Tryz.prog w = .ok (.func fn first cap) w := fun _ _ _ _ => rfl
  obtain ⟨F, cap, rfl, -, -⟩ := env_any P ρ v w h
  have HH := Lib.hid h
  have HP := Lib.hid hP
  have HB := Lib.hid hB
  clear h hP hB
  go_enter Tryz.func205, Tryz.ntmps205
  go_wp2_with fail
  go_ret
  have hb : Below w.heap.size w ((((w.alloc (.cells #[.func (.func F) #[] cap] 210)).alloc (.cells #[.int .i64 k] 3)).alloc (.cells #[.string ⟨s.toArray⟩] 9)).alloc (.cells #[.int .i64 a, .bool B] 171)) :=
    ((((Below.refl _ _).alloc (Nat.le_refl _) _).alloc (by simp) _).alloc (by simp; omega) _).alloc (by simp; omega) _
  have g4 := heap4 w (.cells #[.func (.func F) #[] cap] 210) (.cells #[.int .i64 k] 3) (.cells #[.string ⟨s.toArray⟩] 9) (.cells #[.int .i64 a, .bool B] 171)
  have nP : ∀ m, ¬ P (w.heap.size + m) := fun m hm => by have := HP.out _ hm; omega
  refine ⟨_, rfl, ⟨w.heap.size + 1, w.heap.size + 2, w.heap.size + 3, w.heap.size, _, rfl, ⟨nP 1, nP 2, nP 3, nP 0⟩, g4.2.1, g4.2.2.1, by rw [← HB.out]; exact g4.2.2.2, g4.1, HH.out.below hb⟩, hb⟩
theorem within_any (P : Nat → Prop) (ρ : Env) (v : Value) (w : World) (h : EnvAt w P ρ v) (hP : ∀ b, P b → b < w.heap.size) :
    Calls Tryz.prog 175 #[v] w fun e w' => ∃ v', e = .returned v' ∧ EnvAt w' P (none :: ρ) v' ∧ Below w.heap.size w w' := by
  have hmf : ∀ (fn : Fn) (first cap : Array Value) (w : World), (Instr.makeFunc fn first cap).run Tryz.prog w = .ok (.func fn first cap) w := fun _ _ _ _ => rfl
  obtain ⟨F, cap, rfl, -, -⟩ := env_any P ρ v w h
  have HH := Lib.hid h
  have HP := Lib.hid hP
  clear h hP
  go_enter Tryz.func175, Tryz.ntmps175
  go_wp2_with fail
  go_ret
  have hb : Below w.heap.size w (w.alloc (.cells #[.func (.func F) #[] cap] 210)) := (Below.refl _ _).alloc (Nat.le_refl _) _
  exact ⟨_, rfl, ⟨w.heap.size, _, rfl, fun hm => by have := HP.out _ hm; omega, heap_alloc_new w _, HH.out.below hb⟩, hb⟩
end Go.Proofs.YtpbkeamjdolpgaaGreatDoor
namespace Go.Proofs.YtpbkeamjdolpgaaGreatDoor
open Go.RowKit Go.Lib
open Go.Maps (Keyed)

theorem wpList_insert_own {H : Type} {P : Program} (w : World) {ops : Array Oper} {rest : List Oper} {o : Oper} {a : Act} {Q : Exit → Act → World → Prop}
    (hg : o.guard = none) (m x v : Operand) (t : TypeId) (hop : o.op = Op.insert t m x v)
    (k e : TypeId) (K : Keyed P k) (ht : P.underlying t = some (.map k e)) (R : Value → Option (DataW H × List MemPlace)) (b n : Nat) (D : DataW H)
    (hm : a.eval m = .map (some b)) (hown : w.ownsMap P k R b n D) (hn : n < maxLen) (key val : Value) (kl : Lit) (hx : a.eval x = key) (hv : a.eval v = val) (hkey : keyOf P k key = some kl)
    (d : DataW H) (ps : List MemPlace) (hval : R val = some (d, ps))
    (hK : ∀ w', w'.ownsMap P k R b (n + 1) (D.put kl d) → w.grownBy w' (some b) → wpList P ops Q rest (a.put o.dst undef) w') :
    wpList P ops Q (o :: rest) a w := by
  refine wpList_plain hg fun K' hK' => ?_
  obtain ⟨w', hrun, r1, r2⟩ := hown.update K ht hn hkey hval
  unfold Oper.wp
  simp [execOp, hop, hm, hx, hv, hrun, Result.andThen]
  exact hK' _ _ (hK w' r1 r2)

def tkElem (v : Value) : Option (DataW Unit × List MemPlace) := match v with
  | .agg xs => match xs.toList with
    | [.int .i64 a, .bool b] => some (.agg [.lit (.int .i64 a), .lit (.bool b)], [])
    | _ => none
  | _ => none
theorem tkElem_mk (a : Int) (b : Bool) : tkElem (.agg #[.int .i64 a, .bool b]) = some (.agg [.lit (.int .i64 a), .lit (.bool b)], []) := rfl
theorem tkElem_inv {v : Value} {z : DataW Unit × List MemPlace} (h : tkElem v = some z) : ∃ a b, v = .agg #[.int .i64 a, .bool b] ∧ z = (.agg [.lit (.int .i64 a), .lit (.bool b)], []) := by
  unfold tkElem at h
  split at h
  · rename_i xs
    split at h
    · rename_i a b hx
      simp at h
      refine ⟨a, b, ?_, h.symm⟩
      congr 1
      obtain ⟨l⟩ := xs
      simp at hx
      subst hx
      rfl
    · cases h
  · cases h
def TkD (D : DataW Unit) (f : List UInt8 → Option (Nat × Bool)) : Prop := Maps.IsMap D ∧ ∀ s, Maps.has D (.string s) = (f s).isSome ∧ ∀ a b, f s = some (a, b) → ∀ z, D.atKey (.string s) z = .agg [.lit (.int .i64 a), .lit (.bool b)]
theorem TkD.nil : TkD (.map []) (fun _ => none) := ⟨⟨[], rfl⟩, fun s => ⟨rfl, fun a b h => by cases h⟩⟩
theorem TkD.put {D : DataW Unit} {f : List UInt8 → Option (Nat × Bool)} (h : TkD D f) (k : List UInt8) (a : Nat) (b : Bool) : TkD (D.put (.string k) (.agg [.lit (.int .i64 a), .lit (.bool b)])) (fun s => if s = k then some (a, b) else f s) := by
  have hk : WideAt.IsKeyLit (.string k) := by simp [WideAt.IsKeyLit]
  obtain ⟨es, rfl⟩ := h.1
  refine ⟨⟨_, rfl⟩, fun s => ?_⟩
  by_cases hs : s = k
  · subst hs
    refine ⟨by simpa using Maps.has_put_same (D := .map es) ⟨es, rfl⟩ hk _, fun a' b' e z => ?_⟩
    simp at e
    obtain ⟨rfl, rfl⟩ := e
    exact Maps.atKey_put_same ⟨es, rfl⟩ hk _ z
  · have hne : (Lit.string s) ≠ .string k := fun e => hs (by cases e; rfl)
    obtain ⟨h1, h2⟩ := h.2 s
    refine ⟨?_, fun a' b' e z => ?_⟩
    · rw [Maps.has_put_other hne, h1]
      simp [hs]
    · simp [hs] at e
      rw [Maps.atKey_put_other hne]
      exact h2 a' b' e z
def TkMap (w : World) (b : Nat) (f : List UInt8 → Option (Nat × Bool)) : Prop := ∃ n D, n ≤ 64 ∧ w.ownsMap Tryz.prog 9 tkElem b n D ∧ TkD D f
def CntD (D : DataW Unit) (l : List (List UInt8)) : Prop := Maps.IsMap D ∧ ∀ s, Maps.has D (.string s) = decide (s ∈ l)
theorem CntD.nil : CntD (.map []) [] := ⟨⟨[], rfl⟩, fun _ => rfl⟩
theorem CntD.put {D : DataW Unit} {l : List (List UInt8)} (h : CntD D l) (k : List UInt8) (d : DataW Unit) : CntD (D.put (.string k) d) (l ++ [k]) := by
  have hk : WideAt.IsKeyLit (.string k) := by simp [WideAt.IsKeyLit]
  obtain ⟨es, rfl⟩ := h.1
  refine ⟨⟨_, rfl⟩, fun s => ?_⟩
  by_cases hs : s = k
  · subst hs
    rw [Maps.has_put_same ⟨es, rfl⟩ hk]
    simp
  · have hne : (Lit.string s) ≠ .string k := fun e => hs (by cases e; rfl)
    rw [Maps.has_put_other hne, h.2 s]
    simp [hs]
def CntMap (w : World) (b : Nat) (l : List (List UInt8)) : Prop := ∃ D, w.ownsMap Tryz.prog 9 (plainElem Tryz.prog 3) b l.length D ∧ CntD D l
theorem TkMap.keep {w w' : World} {b : Nat} {f : List UInt8 → Option (Nat × Bool)} (h : TkMap w b f) (hk : w'.heap[b]? = w.heap[b]?) : TkMap w' b f := by
  obtain ⟨n, D, h1, ⟨es, clock, hb, F, hs, hD⟩, h3⟩ := h
  exact ⟨n, D, h1, ⟨es, clock, hk.trans hb, F, hs, hD⟩, h3⟩
theorem CntMap.keep {w w' : World} {b : Nat} {l : List (List UInt8)} (h : CntMap w b l) (hk : w'.heap[b]? = w.heap[b]?) : CntMap w' b l := by
  obtain ⟨D, ⟨es, clock, hb, F, hs, hD⟩, h3⟩ := h
  exact ⟨D, ⟨es, clock, hk.trans hb, F, hs, hD⟩, h3⟩
theorem TkMap.lt {w : World} {b : Nat} {f : List UInt8 → Option (Nat × Bool)} (h : TkMap w b f) : b < w.heap.size := by
  obtain ⟨n, D, h1, h2, h3⟩ := h
  exact h2.lt
theorem CntMap.lt {w : World} {b : Nat} {l : List (List UInt8)} (h : CntMap w b l) : b < w.heap.size := by
  obtain ⟨D, h2, h3⟩ := h
  exact h2.lt
theorem Tryz.kStr : Keyed Tryz.prog 9 := Maps.string_keyed Tryz.underlying9
theorem key_str (s : List UInt8) (h : s.length ≤ maxLen) : keyOf Tryz.prog 9 (.string ⟨s.toArray⟩) = some (.string s) := by
  have := Go.WideMaps.keyOf_string_mk (P := Tryz.prog) (k := 9) Tryz.underlying9 (s := ⟨s.toArray⟩) (by show s.toArray.size ≤ _; simpa using h)
  simpa using this
theorem Tryz.zeroTakes (w : World) : (zeroValue 171).run Tryz.prog w = .ok (.agg #[.int .i64 0, .bool false]) w := by kernel_rfl
theorem Tryz.zeroIntM (w : World) : (zeroValue 3).run Tryz.prog w = .ok (.int .i64 0) w := by kernel_rfl
end Go.Proofs.YtpbkeamjdolpgaaGreatDoor
namespace Go.Proofs.YtpbkeamjdolpgaaGreatDoor
open Go.RowKit Go.Lib Go.Sort
open Go.Maps (Keyed)

theorem Tryz.infoStr : (Tryz.prog.info? 9).map (fun i => (i.zero, i.size, i.bytes)) = some (some (.string ⟨#[]⟩), 1, 16) := by kernel_rfl
theorem size_own {k : TypeId} {R : Value → Option (DataW Unit × List MemPlace)} {w : World} {b n : Nat} {D : DataW Unit} (h : w.ownsMap Tryz.prog k R b n D) : Maps.size D ≤ n := by
  obtain ⟨es, clock, hb, F, hs, rfl⟩ := h
  simpa [Maps.size, length_sorted] using hs
set_option maxHeartbeats 4000000 in
set_option maxRecDepth 100000 in
theorem rising_any (b : Nat) (l : List (List UInt8)) (hl : l.length < 2 ^ 40) (w : World) (h : CntMap w b l) :
    Calls Tryz.prog 76 #[.map (some b)] w fun e w' => ∃ v, e = .returned v ∧ w'.ownsRow w.heap.size 9 1 v (risL l).length ((risL l).map encStr) ∧ Below w.heap.size w w' := by
  obtain ⟨D, hown, hD⟩ := h
  obtain ⟨i0, hi, hz0, hz1, hz2⟩ := info_parts Tryz.infoStr
  have hsz := size_own hown
  have hbl := hown.lt
  have hnx0 : Below w.heap.size w w := Below.refl _ _
  go_enter Tryz.func76, Tryz.ntmps76
  go_wp2_with (first
    | (at_range; refine wpList_range_own _ rfl _ 119 rfl 9 3 Tryz.kStr Tryz.underlying119 _ b _ D rfl hown ?_; intro w0 hrg0 hg0 hs0))
  go_frame
  go_loopw [3] (fun v wr => ∃ (left : Lit → Bool) (cnt : Nat) (ss : List (List UInt8)), wr.ranges Tryz.prog 9 (plainElem Tryz.prog 3) b w.heap.size l.length D left cnt ∧ ss.length + cnt ≤ l.length ∧
      wr.ownsRow w.heap.size 9 1 v ss.length (ss.map encStr) ∧ Collected D left ss ∧ Below w.heap.size w wr)
    (fun _ wr => wr.rangeLeft b w.heap.size)
  case atStart =>
    exact ⟨_, _, [], hrg0, by simpa using hsz, World.ownsRow_nil _ _ _ _, Collected.start D, hnx0.grown hg0 (Nat.le_refl _) (fun j hj => by cases hj)⟩
  case round =>
    obtain ⟨left, cnt, ss, hrg, hcs, hrow, hC, hnx⟩ := hrel
    go_wp2_with (first
      | (at_next; refine wpList_next_ranges _ rfl _ rfl 9 Tryz.kStr (plainElem Tryz.prog 3) encStr (Value.int .i64) (fun key kl hk => by obtain ⟨x, hx, _⟩ := Maps.keyOf_str Tryz.underlying9 hk; exact ⟨x, hx⟩) (fun v y hv => by obtain ⟨c, rfl, _⟩ := plainElem_int_inv Tryz.underlying3 hv; exact ⟨c, rfl⟩) b w.heap.size l.length _ _ _ rfl hrg ?_ ?_))
    · intro hc0 hl0
      have hmem : ∀ x, x ∈ ss ↔ x ∈ l := fun x => by
        rw [hC.2 x, hD.2 x, hl0]
        simp
      have hsort := sort_ris hC.1 hmem
      rcases hrow.2 with ⟨rfl, hnil⟩ | ⟨g, cap, cur, rfl, hbase, hb, h1, h2, h3, h4⟩
      · have he : ss = [] := List.length_eq_zero_iff.1 hnil
        subst he
        have HR : Hid (risL l = []) := Lib.hid (by rw [← hsort]; simp)
        have hc := Any.slices_Sort_string_none Tryz.lays190 none 0 wr
        have HB := Lib.hid hnx
        clear hrow hnx hrg hC hD hmem hsort
        go_wp2_with (go_at_call 136; refine hc.mono ?_; rintro e w' ⟨rfl, rfl⟩)
        go_ret
        rw [HR.out]
        exact ⟨_, rfl, World.ownsRow_nil _ _ _ _, HB.out⟩
      · have hH : Holds encStr wr g 0 ss.toArray := holds_of_block hb (by simpa using h4)
        have hgl : g < wr.heap.size := (Array.getElem?_eq_some_iff.1 hb).1
        have hc := Tryz.slices_Sort_string g 0 cap ss wr hH hgl (by omega)
        have HB := Lib.hid hnx
        have HG := Lib.hid (⟨hbase, hb, h1, h2, h3⟩ : _ ∧ _ ∧ _ ∧ _ ∧ _)
        have HS := Lib.hid hsort
        clear hrow hnx hrg hC hD hmem hsort hbase hb h1 h2 h3 h4 hH hgl
        go_wp2_with (go_at_call 136; refine hc.mono ?_; rintro e w' ⟨rfl, nn, os, rfl⟩)
        go_ret
        obtain ⟨hbase, hb, h1, h2, h3⟩ := HG.out
        have hr := ownsRow_sorted (n := nn) (os := os) (ts := ss.mergeSort fun x y => decide (x ≤ y)) (by simp) hbase hb h1 h2 h3
        have hlen : ss.length = (risL l).length := by rw [← HS.out]; simp
        rw [HS.out, hlen] at hr
        rw [HS.out, hlen]
        exact ⟨_, rfl, hr, HB.out.grown (grownBy_sorted _) HB.out.size (fun j hj => by cases hj; exact hbase)⟩
    · intro x c kl yd yp w2 cnt2 hkey hlk hv hat hrg2 hlt hg2 hs2 hen
      obtain ⟨x', ex, rfl, _⟩ := Maps.keyOf_str Tryz.underlying9 hkey
      obtain rfl : x = x' := encStr_inj ex
      have hrow2 := hrow.kept hg2 (Or.inr (row_ne_iter hrow hrg).symm)
      clear hs2
      go_wp2_with (at_builtin; refine wpList_append_own _ rfl _ _ 44 rfl w.heap.size 9 i0 (.string ⟨#[]⟩) 1 16 Tryz.underlying44 hi hz0 hz1 hz2 rfl (by decide) _ _ _ rfl (hrow2.alloc _) ⟨w2.heap.size, 0, none⟩ 1 1 [encStr x] rfl rfl (cell_one_new _ _ _) (by simp [Value.oneCell', encStr]) (by unfold maxLen at *; omega) (by omega) (by have := hnx.size; have := hg2.size; simp; omega) ?_; intro v' w3 hown' hg3 hnil3)
      have hrg3 := (hrg2.alloc _).kept hg3 (row_ne_low hrow2 hbl) (row_ne_iter hrow2 hrg2)
      go_roundw
      case rel =>
        refine ⟨_, cnt2, ss ++ [x], hrg3, by simp; omega, by simpa using hown', hC.step hlk hat, ?_⟩
        exact ((hnx.grown hg2 hnx.size (fun j hj => by cases hj; exact Nat.le_refl _)).alloc (by have := hnx.size; have := hg2.size; omega) _).grown hg3 (by have := hnx.size; have := hg2.size; simp; omega) (fun j hj => (hrow2.lt j hj).1)
      case measure => rw [hrg3.left_eq, hrg.left_eq]; exact hlt
end Go.Proofs.YtpbkeamjdolpgaaGreatDoor
namespace Go.Proofs.YtpbkeamjdolpgaaGreatDoor
open Go.RowKit Go.Lib
open Go.Maps (Keyed)

theorem Below.grownN {B b : Nat} {a w w1 : World} (h : Below B a w ∧ B ≤ b ∧ B ≤ w.heap.size) (hg : w.grownBy w1 (some b)) : Below B a w1 ∧ B ≤ b ∧ B ≤ w1.heap.size :=
  ⟨⟨hg.os.trans h.1.os, hg.tape.trans h.1.tape, hg.output.trans h.1.output, Nat.le_trans h.1.size hg.size, fun k hk => (hg.block k (by have := h.2.2; omega) (fun e => by have h2 := h.2.1; cases e; omega)).trans (h.1.block k hk)⟩, h.2.1, Nat.le_trans h.2.2 hg.size⟩
theorem fn_fun : (fun s : List UInt8 => if s = [114, 97, 110, 103, 101] then some (2, false) else if s = [109, 97, 120] then some (1, false) else if s = [109, 105, 110] then some (1, false) else if s = [102, 108, 111, 111, 114] then some (1, false) else if s = [97, 98, 115] then some (1, false) else if s = [108, 101, 110] then some (1, false) else none) = fun s => (fnB s).map (·, false) := by
  funext s
  unfold fnB fn1 fn2
  by_cases h0 : s = [108, 101, 110]
  · subst h0; rfl
  by_cases h1 : s = [97, 98, 115]
  · subst h1; rfl
  by_cases h2 : s = [102, 108, 111, 111, 114]
  · subst h2; rfl
  by_cases h3 : s = [109, 105, 110]
  · subst h3; rfl
  by_cases h4 : s = [109, 97, 120]
  · subst h4; rfl
  by_cases h5 : s = [114, 97, 110, 103, 101]
  · subst h5; rfl
  simp [h0, h1, h2, h3, h4, h5]
set_option maxHeartbeats 4000000 in
set_option maxRecDepth 100000 in
theorem functions_any (w : World) : Calls Tryz.prog 132 #[] w fun e w' => ∃ b, e = .returned (.map (some b)) ∧ w.heap.size ≤ b ∧ TkMap w' b (fun s => (fnB s).map (·, false)) ∧ Below w.heap.size w w' := by
  have hmm := @run_makeMap Tryz.prog
  have hown := World.ownsMap_made (H := Unit) w Tryz.prog 9 tkElem
  have hbel : Below w.heap.size w (w.alloc (.map #[] 0)) ∧ w.heap.size ≤ w.heap.size ∧ w.heap.size ≤ (w.alloc (.map #[] 0)).heap.size := ⟨(Below.refl _ _).alloc (Nat.le_refl _) _, Nat.le_refl _, by simp⟩
  go_enter Tryz.func132, Tryz.ntmps132
  go_wp2_with (refine wpList_insert_own _ rfl _ _ _ 117 rfl 9 171 Tryz.kStr Tryz.underlying117 tkElem _ _ _ rfl hown (by unfold maxLen; omega) _ _ _ rfl rfl (key_str _ (by decide)) _ [] (tkElem_mk _ _) ?_; intro w1 hown hgrow; have hbel := Below.grownN hbel hgrow)
  go_ret
  exact ⟨_, rfl, Nat.le_refl _, ⟨_, _, by omega, hown, fn_fun ▸ ((((((TkD.nil.put [108, 101, 110] 1 false).put [97, 98, 115] 1 false).put [102, 108, 111, 111, 114] 1 false).put [109, 105, 110] 1 false).put [109, 97, 120] 1 false).put [114, 97, 110, 103, 101] 2 false)⟩, hbel.1⟩
def md7 (s : List UInt8) : Option (Nat × Bool) := if s = [100, 105, 97, 109, 111, 110, 100] then some (2, false) else if s = [100, 111, 116, 115] then some (1, false) else if s = [98, 111, 120] then some (2, false) else if s = [104, 97, 108, 102] then some (2, false) else if s = [99, 104, 105, 108, 100, 114, 101, 110] then some (0, false) else if s = [102, 117, 108, 108] then some (0, false) else if s = [101, 109, 112, 116, 121] then some (0, false) else none
theorem md_fun : (fun s : List UInt8 => if s ∈ mb1 then some (1, true) else if s ∈ mb0 then some (0, true) else md7 s) = mdB := by
  funext s
  unfold mdB md0 md1 md2 mb0 mb1 md7
  by_cases h0 : s = [101, 109, 112, 116, 121]
  · subst h0; rfl
  by_cases h1 : s = [102, 117, 108, 108]
  · subst h1; rfl
  by_cases h2 : s = [99, 104, 105, 108, 100, 114, 101, 110]
  · subst h2; rfl
  by_cases h3 : s = [104, 97, 108, 102]
  · subst h3; rfl
  by_cases h4 : s = [98, 111, 120]
  · subst h4; rfl
  by_cases h5 : s = [100, 111, 116, 115]
  · subst h5; rfl
  by_cases h6 : s = [100, 105, 97, 109, 111, 110, 100]
  · subst h6; rfl
  by_cases h7 : s = [117, 110, 105, 111, 110]
  · subst h7; rfl
  by_cases h8 : s = [105, 110, 116, 101, 114, 115, 101, 99, 116, 105, 111, 110]
  · subst h8; rfl
  by_cases h9 : s = [100, 105, 102, 102, 101, 114, 101, 110, 99, 101]
  · subst h9; rfl
  by_cases h10 : s = [120, 111, 114]
  · subst h10; rfl
  by_cases h11 : s = [104, 117, 108, 108]
  · subst h11; rfl
  by_cases h12 : s = [109, 105, 110, 107, 111, 119, 115, 107, 105]
  · subst h12; rfl
  by_cases h13 : s = [99, 111, 109, 112, 108, 101, 109, 101, 110, 116]
  · subst h13; rfl
  by_cases h14 : s = [105, 110, 116, 101, 114, 105, 111, 114]
  · subst h14; rfl
  by_cases h15 : s = [99, 108, 111, 115, 117, 114, 101]
  · subst h15; rfl
  by_cases h16 : s = [98, 111, 117, 110, 100, 97, 114, 121]
  · subst h16; rfl
  by_cases h17 : s = [114, 101, 103, 117, 108, 97, 114]
  · subst h17; rfl
  by_cases h18 : s = [109, 111, 118, 101]
  · subst h18; rfl
  by_cases h19 : s = [115, 116, 114, 101, 116, 99, 104]
  · subst h19; rfl
  by_cases h20 : s = [109, 105, 114, 114, 111, 114]
  · subst h20; rfl
  by_cases h21 : s = [116, 117, 114, 110]
  · subst h21; rfl
  by_cases h22 : s = [109, 97, 112]
  · subst h22; rfl
  simp [h0, h1, h2, h3, h4, h5, h6, h7, h8, h9, h10, h11, h12, h13, h14, h15, h16, h17, h18, h19, h20, h21, h22]
theorem TkD.fun_ {D : DataW Unit} {f g : List UInt8 → Option (Nat × Bool)} (h : TkD D f) (e : f = g) : TkD D g := e ▸ h
theorem take_fun (l : List (List UInt8)) (i : Nat) (x : List UInt8) (hx : l[i]? = some x) (v : Nat × Bool) (f : List UInt8 → Option (Nat × Bool)) :
    (fun s => if s = x then some (v.1, v.2) else if s ∈ l.take i then some v else f s) = fun s => if s ∈ l.take (i + 1) then some v else f s := by
  funext s
  rw [List.take_add_one, hx]
  by_cases h1 : s = x
  · subst h1
    simp
  · by_cases h2 : s ∈ l.take i
    · simp [h1, h2]
    · simp [h1, h2]
def SRow (w : World) (g : Nat) (l : List (List UInt8)) : Prop := w.heap[g]? = some (.cells (l.map fun s => Value.string ⟨s.toArray⟩).toArray 9 (0, 0))
theorem SRow.at_ {w : World} {g : Nat} {l : List (List UInt8)} (h : SRow w g l) {i : Nat} {x : List UInt8} (hx : l[i]? = some x) : w.cell? ⟨g, i, none⟩ = some (.string ⟨x.toArray⟩) := by
  unfold SRow at h
  simp [World.cell?, h, hx]
theorem mb_len : ∀ x ∈ mb0 ++ mb1, x.length ≤ maxLen := by
  intro x hx
  have : (mb0 ++ mb1).all (fun x => decide (x.length ≤ 20)) = true := by decide
  have := List.all_eq_true.1 this x hx
  simp at this
  unfold maxLen
  omega
set_option maxHeartbeats 4000000 in
set_option maxRecDepth 100000 in
theorem modules_any (w : World) : Calls Tryz.prog 133 #[] w fun e w' => ∃ b, e = .returned (.map (some b)) ∧ w.heap.size ≤ b ∧ TkMap w' b mdB ∧ Below w.heap.size w w' := by
  have hmm := @run_makeMap Tryz.prog
  have hown := World.ownsMap_made (H := Unit) w Tryz.prog 9 tkElem
  have hbel : Below w.heap.size w (w.alloc (.map #[] 0)) ∧ w.heap.size ≤ w.heap.size ∧ w.heap.size ≤ (w.alloc (.map #[] 0)).heap.size := ⟨(Below.refl _ _).alloc (Nat.le_refl _) _, Nat.le_refl _, by simp⟩
  go_enter Tryz.func133, Tryz.ntmps133
  go_upto_region 2 with (refine wpList_insert_own _ rfl _ _ _ 117 rfl 9 171 Tryz.kStr Tryz.underlying117 tkElem _ _ _ rfl hown (by unfold maxLen; omega) _ _ _ rfl rfl (key_str _ (by decide)) _ [] (tkElem_mk _ _) ?_; intro w1 hown hgrow; have hbel := Below.grownN hbel hgrow)
  have TKD : TkD _ md7 := (((((((TkD.nil.put [101, 109, 112, 116, 121] 0 false).put [102, 117, 108, 108] 0 false).put [99, 104, 105, 108, 100, 114, 101, 110] 0 false).put [104, 97, 108, 102] 2 false).put [98, 111, 120] 2 false).put [100, 111, 116, 115] 1 false).put [100, 105, 97, 109, 111, 110, 100] 2 false)
  have H0 : Hid (∃ m D, m ≤ 7 ∧ w1.ownsMap Tryz.prog 9 tkElem w.heap.size m D ∧ TkD D (fun s => if s ∈ mb0.take 0 then some (0, true) else md7 s)) := Lib.hid ⟨_, _, by omega, hown, TKD.fun_ (by funext s; simp)⟩
  have HB0 := Lib.hid hbel
  have hlt0 : w.heap.size < w1.heap.size := hown.lt
  clear hown TKD hbel hgrow

  go_wp2_with fail
  have HS : Hid (SRow (w1.alloc (.cells #[.string ⟨#[117, 110, 105, 111, 110]⟩, .string ⟨#[105, 110, 116, 101, 114, 115, 101, 99, 116, 105, 111, 110]⟩, .string ⟨#[100, 105, 102, 102, 101, 114, 101, 110, 99, 101]⟩, .string ⟨#[120, 111, 114]⟩, .string ⟨#[104, 117, 108, 108]⟩, .string ⟨#[109, 105, 110, 107, 111, 119, 115, 107, 105]⟩, .string ⟨#[99, 111, 109, 112, 108, 101, 109, 101, 110, 116]⟩, .string ⟨#[105, 110, 116, 101, 114, 105, 111, 114]⟩, .string ⟨#[99, 108, 111, 115, 117, 114, 101]⟩, .string ⟨#[98, 111, 117, 110, 100, 97, 114, 121]⟩, .string ⟨#[114, 101, 103, 117, 108, 97, 114]⟩] 9)) w1.heap.size mb0) := heap_alloc_new w1 _
  have HT : Hid ((∃ m D, m ≤ 7 + 0 ∧ (w1.alloc (.cells #[.string ⟨#[117, 110, 105, 111, 110]⟩, .string ⟨#[105, 110, 116, 101, 114, 115, 101, 99, 116, 105, 111, 110]⟩, .string ⟨#[100, 105, 102, 102, 101, 114, 101, 110, 99, 101]⟩, .string ⟨#[120, 111, 114]⟩, .string ⟨#[104, 117, 108, 108]⟩, .string ⟨#[109, 105, 110, 107, 111, 119, 115, 107, 105]⟩, .string ⟨#[99, 111, 109, 112, 108, 101, 109, 101, 110, 116]⟩, .string ⟨#[105, 110, 116, 101, 114, 105, 111, 114]⟩, .string ⟨#[99, 108, 111, 115, 117, 114, 101]⟩, .string ⟨#[98, 111, 117, 110, 100, 97, 114, 121]⟩, .string ⟨#[114, 101, 103, 117, 108, 97, 114]⟩] 9)).ownsMap Tryz.prog 9 tkElem w.heap.size m D ∧ TkD D (fun s => if s ∈ mb0.take 0 then some (0, true) else (md7) s)) ∧ SRow (w1.alloc (.cells #[.string ⟨#[117, 110, 105, 111, 110]⟩, .string ⟨#[105, 110, 116, 101, 114, 115, 101, 99, 116, 105, 111, 110]⟩, .string ⟨#[100, 105, 102, 102, 101, 114, 101, 110, 99, 101]⟩, .string ⟨#[120, 111, 114]⟩, .string ⟨#[104, 117, 108, 108]⟩, .string ⟨#[109, 105, 110, 107, 111, 119, 115, 107, 105]⟩, .string ⟨#[99, 111, 109, 112, 108, 101, 109, 101, 110, 116]⟩, .string ⟨#[105, 110, 116, 101, 114, 105, 111, 114]⟩, .string ⟨#[99, 108, 111, 115, 117, 114, 101]⟩, .string ⟨#[98, 111, 117, 110, 100, 97, 114, 121]⟩, .string ⟨#[114, 101, 103, 117, 108, 97, 114]⟩] 9)) w1.heap.size mb0 ∧ Below w.heap.size w (w1.alloc (.cells #[.string ⟨#[117, 110, 105, 111, 110]⟩, .string ⟨#[105, 110, 116, 101, 114, 115, 101, 99, 116, 105, 111, 110]⟩, .string ⟨#[100, 105, 102, 102, 101, 114, 101, 110, 99, 101]⟩, .string ⟨#[120, 111, 114]⟩, .string ⟨#[104, 117, 108, 108]⟩, .string ⟨#[109, 105, 110, 107, 111, 119, 115, 107, 105]⟩, .string ⟨#[99, 111, 109, 112, 108, 101, 109, 101, 110, 116]⟩, .string ⟨#[105, 110, 116, 101, 114, 105, 111, 114]⟩, .string ⟨#[99, 108, 111, 115, 117, 114, 101]⟩, .string ⟨#[98, 111, 117, 110, 100, 97, 114, 121]⟩, .string ⟨#[114, 101, 103, 117, 108, 97, 114]⟩] 9))) := by
    obtain ⟨m, D, h1, h2, h3⟩ := H0.out
    exact ⟨⟨m, D, by omega, h2.alloc _, h3⟩, HS.out, HB0.out.1.alloc HB0.out.1.size _⟩
  obtain ⟨ga, hga⟩ : ∃ g, w1.heap.size = g := ⟨_, rfl⟩
  rw [hga] at HT ⊢
  have hlta : w.heap.size < ga := by omega
  clear HS H0 HB0 hga
  generalize World.alloc w1 (.cells #[.string ⟨#[117, 110, 105, 111, 110]⟩, .string ⟨#[105, 110, 116, 101, 114, 115, 101, 99, 116, 105, 111, 110]⟩, .string ⟨#[100, 105, 102, 102, 101, 114, 101, 110, 99, 101]⟩, .string ⟨#[120, 111, 114]⟩, .string ⟨#[104, 117, 108, 108]⟩, .string ⟨#[109, 105, 110, 107, 111, 119, 115, 107, 105]⟩, .string ⟨#[99, 111, 109, 112, 108, 101, 109, 101, 110, 116]⟩, .string ⟨#[105, 110, 116, 101, 114, 105, 111, 114]⟩, .string ⟨#[99, 108, 111, 115, 117, 114, 101]⟩, .string ⟨#[98, 111, 117, 110, 100, 97, 114, 121]⟩, .string ⟨#[114, 101, 103, 117, 108, 97, 114]⟩] 9) = Wa at HT ⊢
  go_loopg [17] 11 (fun g v wx => ∃ i : Nat, v = .int .i64 i ∧ i + g = 11 ∧ Hid ((∃ m D, m ≤ 7 + i ∧ wx.ownsMap Tryz.prog 9 tkElem w.heap.size m D ∧ TkD D (fun s => if s ∈ mb0.take i then some (0, true) else (md7) s)) ∧ SRow wx ga mb0 ∧ Below w.heap.size w wx))
  case atStart => exact ⟨0, rfl, by omega, HT⟩
  case round =>
    obtain ⟨i, rfl, hi, hST⟩ := hrel
    by_cases hlt : i < 11
    · obtain ⟨x, hx⟩ : ∃ x, mb0[i]? = some x := ⟨mb0[i]'hlt, List.getElem?_eq_getElem _⟩
      have hxl : x.length ≤ maxLen := mb_len x (by simp [List.mem_of_getElem? hx])
      obtain ⟨⟨m, D, hm, hown, hD⟩, hS, hb⟩ := hST.out
      have hc := hS.at_ hx
      have hlt' : (i : Int) < 11 := by omega
      have Qi1 : IntKind.i64.wrap ((i : Int) + 1) = (i : Int) + 1 := IntWalk.i64_in _ (by omega)
      have hwl : w.heap.size < wr.heap.size := hown.lt
      have HD := Lib.hid (hD.put x 0 true)
      have HX := Lib.hid hx
      have HXL := Lib.hid hxl
      have HS := Lib.hid hS
      have HBB := Lib.hid hb
      clear hS hb hD hx hST hxl
      go_wp2_with (at_mapUpdate; refine wpList_mapUpdate_own _ rfl _ _ _ 117 rfl 9 171 Tryz.kStr Tryz.underlying117 tkElem _ _ _ rfl hown (by unfold maxLen; omega) _ _ _ rfl rfl (key_str _ HXL.out) _ [] (tkElem_mk _ _) ?_; intro w2 hown2 hgrow2)
      have HN : Hid ((∃ m D, m ≤ 7 + (i + 1) ∧ w2.ownsMap Tryz.prog 9 tkElem w.heap.size m D ∧ TkD D (fun s => if s ∈ mb0.take (i + 1) then some (0, true) else (md7) s)) ∧ SRow w2 ga mb0 ∧ Below w.heap.size w w2) := by
        refine ⟨⟨_, _, by omega, hown2, HD.out.fun_ (take_fun mb0 i x HX.out (0, true) _)⟩, (hgrow2.block ga (Array.getElem?_eq_some_iff.1 HS.out).1 (fun e => by cases e; omega)).trans HS.out, (Below.grownN ⟨HBB.out, Nat.le_refl _, by omega⟩ hgrow2).1⟩
      clear hown hown2 hgrow2 hc
      go_roundg (gk - 1)
      case measure => omega
      case rel => exact ⟨i + 1, rfl, by omega, HN⟩
    · have hlt' : ¬ (i : Int) < 11 := by omega
      obtain rfl : i = 11 := by omega
      clear hlt hi
      have hwl : w.heap.size < wr.heap.size := by
        obtain ⟨⟨m, D, hm, ho, hD⟩, _⟩ := hST.out
        exact ho.lt
      have H1 : Hid (∃ m D, m ≤ 18 ∧ wr.ownsMap Tryz.prog 9 tkElem w.heap.size m D ∧ TkD D (fun s => if s ∈ mb1.take 0 then some (1, true) else (fun s => if s ∈ mb0 then some (0, true) else md7 s) s)) := by
        obtain ⟨⟨m, D, hm, ho, hD⟩, _⟩ := hST.out
        exact ⟨m, D, by omega, ho, hD.fun_ (by funext s; rw [List.take_of_length_le (by decide)]; simp)⟩
      have HB1 : Hid (Below w.heap.size w wr ∧ True) := Lib.hid ⟨hST.out.2.2, trivial⟩
      clear hST

      go_wp2_with fail
      have HS : Hid (SRow (wr.alloc (.cells #[.string ⟨#[109, 111, 118, 101]⟩, .string ⟨#[115, 116, 114, 101, 116, 99, 104]⟩, .string ⟨#[109, 105, 114, 114, 111, 114]⟩, .string ⟨#[116, 117, 114, 110]⟩, .string ⟨#[109, 97, 112]⟩] 9)) wr.heap.size mb1) := heap_alloc_new wr _
      have HT : Hid ((∃ m D, m ≤ 18 + 0 ∧ (wr.alloc (.cells #[.string ⟨#[109, 111, 118, 101]⟩, .string ⟨#[115, 116, 114, 101, 116, 99, 104]⟩, .string ⟨#[109, 105, 114, 114, 111, 114]⟩, .string ⟨#[116, 117, 114, 110]⟩, .string ⟨#[109, 97, 112]⟩] 9)).ownsMap Tryz.prog 9 tkElem w.heap.size m D ∧ TkD D (fun s => if s ∈ mb1.take 0 then some (1, true) else (fun s => if s ∈ mb0 then some (0, true) else md7 s) s)) ∧ SRow (wr.alloc (.cells #[.string ⟨#[109, 111, 118, 101]⟩, .string ⟨#[115, 116, 114, 101, 116, 99, 104]⟩, .string ⟨#[109, 105, 114, 114, 111, 114]⟩, .string ⟨#[116, 117, 114, 110]⟩, .string ⟨#[109, 97, 112]⟩] 9)) wr.heap.size mb1 ∧ Below w.heap.size w (wr.alloc (.cells #[.string ⟨#[109, 111, 118, 101]⟩, .string ⟨#[115, 116, 114, 101, 116, 99, 104]⟩, .string ⟨#[109, 105, 114, 114, 111, 114]⟩, .string ⟨#[116, 117, 114, 110]⟩, .string ⟨#[109, 97, 112]⟩] 9))) := by
        obtain ⟨m, D, h1, h2, h3⟩ := H1.out
        exact ⟨⟨m, D, by omega, h2.alloc _, h3⟩, HS.out, HB1.out.1.alloc HB1.out.1.size _⟩
      obtain ⟨gb, hgb⟩ : ∃ g, wr.heap.size = g := ⟨_, rfl⟩
      rw [hgb] at HT ⊢
      have hltb : w.heap.size < gb := by omega
      clear HS H1 HB1 hgb
      generalize World.alloc wr (.cells #[.string ⟨#[109, 111, 118, 101]⟩, .string ⟨#[115, 116, 114, 101, 116, 99, 104]⟩, .string ⟨#[109, 105, 114, 114, 111, 114]⟩, .string ⟨#[116, 117, 114, 110]⟩, .string ⟨#[109, 97, 112]⟩] 9) = Wb at HT ⊢
      go_loopg [27] 5 (fun g v wx => ∃ i : Nat, v = .int .i64 i ∧ i + g = 5 ∧ Hid ((∃ m D, m ≤ 18 + i ∧ wx.ownsMap Tryz.prog 9 tkElem w.heap.size m D ∧ TkD D (fun s => if s ∈ mb1.take i then some (1, true) else (fun s => if s ∈ mb0 then some (0, true) else md7 s) s)) ∧ SRow wx gb mb1 ∧ Below w.heap.size w wx))
      case atStart => exact ⟨0, rfl, by omega, HT⟩
      case round =>
        obtain ⟨i, rfl, hi, hST⟩ := hrel
        by_cases hlt : i < 5
        · obtain ⟨x, hx⟩ : ∃ x, mb1[i]? = some x := ⟨mb1[i]'hlt, List.getElem?_eq_getElem _⟩
          have hxl : x.length ≤ maxLen := mb_len x (by simp [List.mem_of_getElem? hx])
          obtain ⟨⟨m, D, hm, hown, hD⟩, hS, hb⟩ := hST.out
          have hc := hS.at_ hx
          have hlt' : (i : Int) < 5 := by omega
          have Qi1 : IntKind.i64.wrap ((i : Int) + 1) = (i : Int) + 1 := IntWalk.i64_in _ (by omega)
          have hwl : w.heap.size < wr.heap.size := hown.lt
          have HD := Lib.hid (hD.put x 1 true)
          have HX := Lib.hid hx
          have HXL := Lib.hid hxl
          have HS := Lib.hid hS
          have HBB := Lib.hid hb
          clear hS hb hD hx hST hxl
          go_wp2_with (at_mapUpdate; refine wpList_mapUpdate_own _ rfl _ _ _ 117 rfl 9 171 Tryz.kStr Tryz.underlying117 tkElem _ _ _ rfl hown (by unfold maxLen; omega) _ _ _ rfl rfl (key_str _ HXL.out) _ [] (tkElem_mk _ _) ?_; intro w2 hown2 hgrow2)
          have HN : Hid ((∃ m D, m ≤ 18 + (i + 1) ∧ w2.ownsMap Tryz.prog 9 tkElem w.heap.size m D ∧ TkD D (fun s => if s ∈ mb1.take (i + 1) then some (1, true) else (fun s => if s ∈ mb0 then some (0, true) else md7 s) s)) ∧ SRow w2 gb mb1 ∧ Below w.heap.size w w2) := by
            refine ⟨⟨_, _, by omega, hown2, HD.out.fun_ (take_fun mb1 i x HX.out (1, true) _)⟩, (hgrow2.block gb (Array.getElem?_eq_some_iff.1 HS.out).1 (fun e => by cases e; omega)).trans HS.out, (Below.grownN ⟨HBB.out, Nat.le_refl _, by omega⟩ hgrow2).1⟩
          clear hown hown2 hgrow2 hc
          go_roundg (gk - 1)
          case measure => omega
          case rel => exact ⟨i + 1, rfl, by omega, HN⟩
        · have hlt' : ¬ (i : Int) < 5 := by omega
          obtain rfl : i = 5 := by omega
          clear hlt hi
          go_wp2_with fail
          go_ret
          obtain ⟨m, D, hm, ho, hD⟩ := hST.out.1
          exact ⟨_, rfl, Nat.le_refl _, ⟨m, D, by omega, ho, hD.fun_ (by rw [← md_fun]; funext s; rw [List.take_of_length_le (by decide)])⟩, hST.out.2.2⟩
end Go.Proofs.YtpbkeamjdolpgaaGreatDoor
namespace Go.Proofs.YtpbkeamjdolpgaaGreatDoor
open Go.RowKit Go.Lib
open Go.Maps (Keyed)

structure SCtx where
  wb : Nat
  fb : Nat
  mb : Nat
  eb : Nat
  cb : Nat
  wf : Nat
  all : Bool
def MayT (Γ : SCtx) (b : Nat) : Prop := b = Γ.wb ∨ b = Γ.eb ∨ b = Γ.cb
structure WSt (Γ : SCtx) (w : World) (m : Nat) (ev : List Ev) : Prop where
  blk : w.heap[Γ.wb]? = some (.cells #[.map none, .map (some Γ.fb), .map (some Γ.mb), .int .i64 m, .func (.func Γ.wf) #[] #[], .map (some Γ.eb), .map (some Γ.cb)] 121 (0, 0))
  fns : TkMap w Γ.fb (fun s => (fnB s).map (·, false))
  mds : TkMap w Γ.mb mdB
  fre : CntMap w Γ.eb (missE ev)
  cal : CntMap w Γ.cb (calledE ev)
  n1 : Γ.wb ≠ Γ.eb
  n2 : Γ.wb ≠ Γ.cb
  n3 : Γ.eb ≠ Γ.cb
  n4 : ¬ MayT Γ Γ.fb
  n5 : ¬ MayT Γ Γ.mb
theorem WSt.may {Γ : SCtx} {w : World} {m : Nat} {ev : List Ev} (h : WSt Γ w m ev) : ∀ b, MayT Γ b → b < w.heap.size := by
  intro b hb
  rcases hb with rfl | rfl | rfl
  · exact (Array.getElem?_eq_some_iff.1 h.blk).1
  · exact h.fre.lt
  · exact h.cal.lt
theorem WSt.same {Γ : SCtx} {w w' : World} {m : Nat} {ev : List Ev} (h : WSt Γ w m ev) (hk : ∀ k, k < w.heap.size → w'.heap[k]? = w.heap[k]?) : WSt Γ w' m ev :=
  ⟨(hk _ (h.may _ (.inl rfl))).trans h.blk, h.fns.keep (hk _ h.fns.lt), h.mds.keep (hk _ h.mds.lt), h.fre.keep (hk _ h.fre.lt), h.cal.keep (hk _ h.cal.lt), h.n1, h.n2, h.n3, h.n4, h.n5⟩
theorem WSt.below {Γ : SCtx} {w w' : World} {m : Nat} {ev : List Ev} (h : WSt Γ w m ev) (hb : Below w.heap.size w w') : WSt Γ w' m ev := h.same fun k hk => hb.block k hk
theorem WSt.cells {Γ : SCtx} {w : World} {m : Nat} {ev : List Ev} (h : WSt Γ w m ev) : w.cell? ⟨Γ.wb, 0, none⟩ = some (.map none) ∧ w.cell? ⟨Γ.wb, 1, none⟩ = some (.map (some Γ.fb)) ∧ w.cell? ⟨Γ.wb, 2, none⟩ = some (.map (some Γ.mb)) ∧ w.cell? ⟨Γ.wb, 3, none⟩ = some (.int .i64 m) ∧
    w.cell? ⟨Γ.wb, 4, none⟩ = some (.func (.func Γ.wf) #[] #[]) ∧ w.cell? ⟨Γ.wb, 5, none⟩ = some (.map (some Γ.eb)) ∧ w.cell? ⟨Γ.wb, 6, none⟩ = some (.map (some Γ.cb)) ∧ w.frozen? ⟨Γ.wb, 3, none⟩ = false := by
  have hb := h.blk
  refine ⟨?_, ?_, ?_, ?_, ?_, ?_, ?_, ?_⟩ <;> simp [World.cell?, World.frozen?, hb]
theorem WSt.local {Γ : SCtx} {W w w' : World} {m m0 : Nat} {ev ev0 : List Ev} (h0 : WSt Γ W m0 ev0) (h : WSt Γ w m ev) {b : Nat} (hb : W.heap.size ≤ b) (hk : ∀ k, k ≠ b → w'.heap[k]? = w.heap[k]?) : WSt Γ w' m ev := by
  have g : ∀ k, k < W.heap.size → w'.heap[k]? = w.heap[k]? := fun k hl => hk k (by omega)
  exact ⟨(g _ (h0.may _ (.inl rfl))).trans h.blk, h.fns.keep (g _ h0.fns.lt), h.mds.keep (g _ h0.mds.lt), h.fre.keep (g _ h0.fre.lt), h.cal.keep (g _ h0.cal.lt), h.n1, h.n2, h.n3, h.n4, h.n5⟩
theorem Owp.fresh {P : Nat → Prop} {W w w' : World} (h : Owp P W w) {b : Nat} (hb : W.heap.size ≤ b) (hw : Ow b w w') : Owp P W w' :=
  ⟨hw.os.trans h.os, hw.tape.trans h.tape, hw.output.trans h.output, Nat.le_trans h.size hw.size, fun k hk hn => (hw.block k (Nat.lt_of_lt_of_le hk h.size) (by omega)).trans (h.block k hk hn)⟩
theorem WSt.called {Γ : SCtx} {w w' : World} {m : Nat} {ev : List Ev} (h : WSt Γ w m ev) {s : List UInt8} (hg : w.grownBy w' (some Γ.cb)) (hc : CntMap w' Γ.cb (calledE ev ++ [s])) : WSt Γ w' m (ev ++ [.call s]) := by
  have k : ∀ b, b < w.heap.size → b ≠ Γ.cb → w'.heap[b]? = w.heap[b]? := fun b hb hn => hg.block b hb (fun e => by cases e; exact hn rfl)
  refine ⟨(k _ (h.may _ (.inl rfl)) h.n2).trans h.blk, h.fns.keep (k _ h.fns.lt fun e => h.n4 (.inr (.inr e))), h.mds.keep (k _ h.mds.lt fun e => h.n5 (.inr (.inr e))), ?_, ?_, h.n1, h.n2, h.n3, h.n4, h.n5⟩
  · rw [missE_app, show missE [.call s] = [] from rfl, List.append_nil]
    exact h.fre.keep (k _ h.fre.lt h.n3)
  · rw [calledE_app]
    exact hc
theorem WSt.missed {Γ : SCtx} {w w' : World} {m : Nat} {ev : List Ev} (h : WSt Γ w m ev) {s : List UInt8} {p : Int} (hg : w.grownBy w' (some Γ.eb)) (hc : CntMap w' Γ.eb (missE ev ++ [s])) : WSt Γ w' m (ev ++ [.miss s p]) := by
  have k : ∀ b, b < w.heap.size → b ≠ Γ.eb → w'.heap[b]? = w.heap[b]? := fun b hb hn => hg.block b hb (fun e => by cases e; exact hn rfl)
  refine ⟨(k _ (h.may _ (.inl rfl)) h.n1).trans h.blk, h.fns.keep (k _ h.fns.lt fun e => h.n4 (.inr (.inl e))), h.mds.keep (k _ h.mds.lt fun e => h.n5 (.inr (.inl e))), ?_, ?_, h.n1, h.n2, h.n3, h.n4, h.n5⟩
  · rw [missE_app]
    exact hc
  · rw [calledE_app, show calledE [.miss s p] = [] from rfl, List.append_nil]
    exact h.cal.keep (k _ h.cal.lt fun e => h.n3 e.symm)
theorem WSt.badly {Γ : SCtx} {w : World} {m : Nat} {ev : List Ev} (h : WSt Γ w m ev) (c : Int) (s : List UInt8) (p : Int) : WSt Γ w m (ev ++ [.bad c s p]) := by
  refine ⟨h.blk, h.fns, h.mds, ?_, ?_, h.n1, h.n2, h.n3, h.n4, h.n5⟩
  · rw [missE_app, show missE [.bad c s p] = [] from rfl, List.append_nil]
    exact h.fre
  · rw [calledE_app, show calledE [.bad c s p] = [] from rfl, List.append_nil]
    exact h.cal
theorem WSt.nil {Γ : SCtx} {w : World} {m : Nat} {ev : List Ev} (h : WSt Γ w m ev) : WSt Γ w m (ev ++ []) := by rwa [List.append_nil]
theorem CntMap.inc {w : World} {b : Nat} {l : List (List UInt8)} (h : CntMap w b l) (hl : l.length < 2 ^ 40) (s : List UInt8) (hs : s.length ≤ maxLen) :
    ∃ c w', (Instr.lookup 119 (.map (some b)) (.string ⟨s.toArray⟩) false).run Tryz.prog w = .ok (.int .i64 c) w ∧ (Instr.mapUpdate 119 (.map (some b)) (.string ⟨s.toArray⟩) (.int .i64 (IntKind.i64.wrap (c + 1)))).run Tryz.prog w = .ok () w' ∧ w.grownBy w' (some b) ∧ CntMap w' b (l ++ [s]) := by
  obtain ⟨D, ho, hD⟩ := h
  obtain ⟨c, h1, _, _⟩ := ho.lookup_int Tryz.kStr Tryz.underlying119 Tryz.underlying3 (Tryz.zeroIntM w) (key_str s hs)
  obtain ⟨w', h2, h3, h4⟩ := ho.update (t := 119) (e := 3) Tryz.kStr Tryz.underlying119 (by unfold maxLen; omega) (key_str s hs) (plainElem_int (H := Unit) Tryz.underlying3 (a := IntKind.i64.wrap (c + 1)) (Go.WideShapes.wf_wrap _ _))
  exact ⟨c, w', h1, h2, h4, _, by simpa using h3, hD.put s _⟩
theorem missE_len : ∀ ev : List Ev, (missE ev).length ≤ ev.length
  | [] => Nat.le_refl _
  | x :: r => by
    have := missE_len r
    cases x <;> simp [missE] <;> omega
theorem calledE_len : ∀ ev : List Ev, (calledE ev).length ≤ ev.length
  | [] => Nat.le_refl _
  | x :: r => by
    have := calledE_len r
    cases x <;> simp [calledE] <;> omega
def WrongOk (Γ : SCtx) : Prop := (∀ args w, (callFunc Γ.wf args).run Tryz.prog w = .ok (.enter Γ.wf args) w) ∧
  ∀ (k : Int) (n : List UInt8) (y : Option Addr) (len c : Nat) (p : Int) (code : Int) (w : World), Calls Tryz.prog Γ.wf #[.agg #[.int .i64 k, .string ⟨n.toArray⟩, .slice y len c, .int .i64 p], .int .i64 code] w fun e w' =>
    (Γ.all = true ∧ e = .returned (.tuple #[]) ∧ Below w.heap.size w w') ∨
    (Γ.all = false ∧ Below w.heap.size w w' ∧ ∃ b, w.heap.size ≤ b ∧ e = .panicked [{ v := .iface 23 (.pointer (some ⟨b, 0, none⟩)), recovered := false }] ∧ w'.heap[b]? = some (.cells #[.int .i64 code, .int .i64 p, .string ⟨n.toArray⟩] 61 (0, 0)))
def SOk (Γ : SCtx) (w : World) (m : Nat) (ev evN : List Ev) (w' : World) : Prop := (Γ.all = true ∨ wrongE evN = none) ∧ WSt Γ w' m (ev ++ evN) ∧ Owp (MayT Γ) w w'
def SBad (Γ : SCtx) (w : World) (evN : List Ev) (e : Ending) (w' : World) : Prop := Γ.all = false ∧ ∃ c n p b, wrongE evN = some (c, n, p) ∧ w.heap.size ≤ b ∧ e = .panicked [{ v := .iface 23 (.pointer (some ⟨b, 0, none⟩)), recovered := false }] ∧
  w'.heap[b]? = some (.cells #[.int .i64 c, .int .i64 p, .string ⟨n.toArray⟩] 61 (0, 0)) ∧ Owp (MayT Γ) w w'
def SEnd (Γ : SCtx) (w : World) (m : Nat) (ev evN : List Ev) (e : Ending) (w' : World) : Prop := (e = .returned (.tuple #[]) ∧ SOk Γ w m ev evN w') ∨ SBad Γ w evN e w'
def SEndE (Γ : SCtx) (w : World) (m : Nat) (ev evN : List Ev) (ρ : Env) (e : Ending) (w' : World) : Prop := (∃ v, e = .returned v ∧ EnvAt w' (MayT Γ) ρ v ∧ SOk Γ w m ev evN w') ∨ SBad Γ w evN e w'
theorem SOk.start {Γ : SCtx} {w w' : World} {m : Nat} {ev : List Ev} (h : WSt Γ w m ev) (hb : Below w.heap.size w w') : SOk Γ w m ev [] w' := ⟨.inr rfl, (h.below hb).nil, Owp.of_below hb⟩
theorem SOk.trans {Γ : SCtx} {w w1 w2 : World} {m m' : Nat} {ev e1 e2 : List Ev} (h : SOk Γ w m ev e1 w1) (k : SOk Γ w1 m' (ev ++ e1) e2 w2) : SOk Γ w m' ev (e1 ++ e2) w2 := by
  refine ⟨?_, by rw [← List.append_assoc]; exact k.2.1, h.2.2.trans k.2.2⟩
  rcases h.1 with h1 | h1
  · exact .inl h1
  · rcases k.1 with k1 | k1
    · exact .inl k1
    · right
      rw [wrongE_app, h1, k1]
      rfl
theorem SBad.pan {Γ : SCtx} {w w' : World} {e1 : List Ev} {e : Ending} (h : SBad Γ w e1 e w') : ∃ ch, e = .panicked ch := by
  obtain ⟨_, c, n, p, b, _, _, h3, _⟩ := h
  exact ⟨_, h3⟩
theorem SBad.left {Γ : SCtx} {w w' : World} {e1 : List Ev} {e : Ending} (h : SBad Γ w e1 e w') (e2 : List Ev) : SBad Γ w (e1 ++ e2) e w' := by
  obtain ⟨h0, c, n, p, b, h1, h2⟩ := h
  exact ⟨h0, c, n, p, b, by rw [wrongE_app, h1]; rfl, h2⟩
theorem SBad.right {Γ : SCtx} {w w1 w' : World} {m : Nat} {ev e1 e2 : List Ev} {e : Ending} (k : SOk Γ w m ev e1 w1) (h : SBad Γ w1 e2 e w') : SBad Γ w (e1 ++ e2) e w' := by
  obtain ⟨h0, c, n, p, b, h1, h2, h3, h4, h5⟩ := h
  refine ⟨h0, c, n, p, b, ?_, Nat.le_trans k.2.2.size h2, h3, h4, k.2.2.trans h5⟩
  rcases k.1 with k1 | k1
  · rw [h0] at k1
    cases k1
  · rw [wrongE_app, k1, h1]
    rfl
set_option maxHeartbeats 4000000 in
set_option maxRecDepth 100000 in
theorem missing_any (Γ : SCtx) (hw : WrongOk Γ) (m : Nat) (ev : List Ev) (hl : ev.length < 2 ^ 40) (k : Int) (n : List UInt8) (hn : n.length < 2 ^ 40) (y : Option Addr) (len c : Nat) (p : Int) (w : World) (h : WSt Γ w m ev) :
    Calls Tryz.prog 233 #[.pointer (some ⟨Γ.wb, 0, none⟩), .agg #[.int .i64 k, .string ⟨n.toArray⟩, .slice y len c, .int .i64 p]] w (SEnd Γ w m ev [.miss n p]) := by
  have hA : Below w.heap.size w (w.alloc (.cells #[.int .i64 k, .string ⟨n.toArray⟩, .slice y len c, .int .i64 p] 53)) := (Below.refl _ _).alloc (Nat.le_refl _) _
  have HA := Lib.hid hA
  have H0 := Lib.hid h
  have H1 := Lib.hid (h.below hA)
  have HB := Lib.hid (Box4.new w (.int .i64 k) (.string ⟨n.toArray⟩) (.slice y len c) (.int .i64 p))
  have HW := Lib.hid hw
  have HL : Hid ((missE ev).length < 2 ^ 40) := Lib.hid (Nat.lt_of_le_of_lt (missE_len ev) hl)
  have HN : Hid (n.length ≤ maxLen) := by
    show n.length ≤ maxLen
    unfold maxLen
    omega
  clear h hA hw hl hn
  go_enter Tryz.func233, Tryz.ntmps233
  go_upto_region 1 with (fail)
  obtain ⟨a, ha⟩ : ∃ a, w.heap.size = a := ⟨_, rfl⟩
  rw [ha] at HB ⊢
  have HAA := Lib.hid ha
  clear ha
  generalize World.alloc w (.cells #[.int .i64 k, .string ⟨n.toArray⟩, .slice y len c, .int .i64 p] 53) = W at HA H1 HB ⊢
  obtain ⟨x0, x1, x2, x3, xf⟩ := HB.out.facts
  obtain ⟨-, -, -, -, c4, c5, -, -⟩ := H1.out.cells
  obtain ⟨cv, w2, hlook, hupd, hgrow, hcnt⟩ := CntMap.inc (w := W.drew) (b := Γ.eb) (l := missE ev) (H1.out.fre.keep rfl) HL.out n HN.out
  have hal : a ≠ Γ.eb := by
    have := HAA.out
    have := H0.out.fre.lt
    omega
  have H2 : Hid (WSt Γ w2 m (ev ++ [.miss n p])) := Lib.hid (WSt.missed (w := W.drew) (H1.out.same fun _ _ => rfl) hgrow hcnt)
  have HB2 : Hid (Box4 w2 a (.int .i64 k) (.string ⟨n.toArray⟩) (.slice y len c) (.int .i64 p)) := Lib.hid ((hgrow.block a HB.out.lt (fun e => by cases e; exact hal rfl)).trans HB.out)
  have HO2 : Hid (Owp (MayT Γ) w w2) := by
    have h1 : Owp (MayT Γ) w W.drew := Owp.of_below HA.out.drew
    exact h1.trans ⟨hgrow.os, hgrow.tape, hgrow.output, hgrow.size, fun j hj hn => hgrow.block j hj (fun e => by cases e; exact hn (.inr (.inl rfl)))⟩
  clear hcnt hal
  go_still_tail 8, (by kernel_rfl)
  change wpList _ _ _ _ _ (World.drew W)
  go_wp2_with fail
  clear hlook hupd hgrow c4 c5 x0 x1 x2 x3 xf
  obtain ⟨x0, x1, x2, x3, xf⟩ := HB2.out.facts
  obtain ⟨-, -, -, -, c4, -, -, -⟩ := H2.out.cells
  have hw2 := HW.out.2 k n y len c p 280 w2.drew
  have eg := HW.out.1
  go_still_tail 5, (by kernel_rfl)
  change wpList _ _ _ _ _ (World.drew w2)
  have H3 : Hid (WSt Γ w2.drew m (ev ++ [.miss n p])) := Lib.hid (H2.out.same fun _ _ => rfl)
  have HO3 : Hid (Owp (MayT Γ) w w2.drew) := Lib.hid (HO2.out.below (Below.refl _ _).drew)
  generalize World.drew w2 = w3 at *
  go_wp2_with fail
  go_at_fn Γ.wf
  refine hw2.mono ?_
  clear hw2
  rintro e w4 (⟨ha, rfl, hb⟩ | ⟨ha, hb, b, hbl, rfl, hf⟩)
  · have HE : Hid (SOk Γ w m ev [.miss n p] w4) := Lib.hid ⟨.inl ha, H3.out.below hb, HO3.out.below hb⟩
    clear ha hb
    go_wp2_with fail
    go_end0
    exact .inl ⟨rfl, HE.out⟩
  · exact ⟨rfl, .inr ⟨ha, 280, n, p, b, rfl, Nat.le_trans HO3.out.size hbl, rfl, hf, HO3.out.below hb⟩⟩
end Go.Proofs.YtpbkeamjdolpgaaGreatDoor
namespace Go.Proofs.YtpbkeamjdolpgaaGreatDoor
open Go.RowKit Go.Lib
open Go.Maps (Keyed)

theorem TkMap.look {w : World} {b : Nat} {f : List UInt8 → Option (Nat × Bool)} (h : TkMap w b f) (s : List UInt8) (hs : s.length ≤ maxLen) :
    ∃ (x : Int) (z : Bool), (Instr.lookup 117 (.map (some b)) (.string ⟨s.toArray⟩) true).run Tryz.prog w = .ok (.tuple #[.agg #[.int .i64 x, .bool z], .bool (f s).isSome]) w ∧ ∀ a bl, f s = some (a, bl) → x = a ∧ z = bl := by
  obtain ⟨n, D, _, ho, hD⟩ := h
  obtain ⟨v, ps, h1, h2⟩ := ho.look_ok Tryz.kStr Tryz.underlying117 (Tryz.zeroTakes w) (tkElem_mk 0 false) (key_str s hs)
  obtain ⟨x, z, rfl, h3⟩ := tkElem_inv h2
  obtain ⟨h4, h5⟩ := hD.2 s
  refine ⟨x, z, by rw [h1, h4], fun a bl e => ?_⟩
  rw [h5 a bl e] at h3
  simp at h3
  exact ⟨h3.1.1.symm, h3.1.2.symm⟩
theorem evEs_app (ρ : Env) : ∀ a b : List Nd, evEs ρ (a ++ b) = evEs ρ a ++ evEs ρ b
  | [], _ => rfl
  | x :: r, b => by
    rw [List.cons_append, evEs, evEs, evEs_app ρ r b, List.append_assoc]
theorem evEs_snoc (ρ : Env) (a : List Nd) (x : Nd) : evEs ρ (a ++ [x]) = evEs ρ a ++ evE ρ x := by
  rw [evEs_app]
  show evEs ρ a ++ (evE ρ x ++ []) = _
  rw [List.append_nil]
def ExprOk (Γ : SCtx) (x : Nd) : Prop := ∀ (w : World) (m : Nat) (ev : List Ev) (ρ : Env) (v u : Value), NdVal w (fun b => ¬ MayT Γ b) x v → EnvAt w (MayT Γ) ρ u → WSt Γ w m ev → ev.length + (evE ρ x).length < 2 ^ 40 →
  Calls Tryz.prog 204 #[.pointer (some ⟨Γ.wb, 0, none⟩), v, u] w (SEnd Γ w m ev (evE ρ x))
set_option maxHeartbeats 4000000 in
set_option maxRecDepth 100000 in
theorem sexpr_step (Γ : SCtx) (hw : WrongOk Γ) (k : Int) (n : List UInt8) (kids : List Nd) (p : Int) (hn : n.length < 2 ^ 40) (hk : kids.length < 2 ^ 40) (hr : k = 13 → kids ≠ []) (ih : ∀ x ∈ kids, ExprOk Γ x) : ExprOk Γ (.mk k n kids p) := by
  intro w m ev ρ v u hv hu h hl
  obtain ⟨y, cv, rfl, hrow⟩ := hv
  generalize cv.val = c
  clear cv
  have hA : Below w.heap.size w (w.alloc (.cells #[.int .i64 k, .string ⟨n.toArray⟩, .slice y kids.length c, .int .i64 p] 53)) := (Below.refl _ _).alloc (Nat.le_refl _) _
  obtain ⟨F, cap, rfl, eg, -⟩ := env_any _ ρ u w hu
  have H0 := Lib.hid (SOk.start h hA)
  have HB := Lib.hid (Box4.new w (.int .i64 k) (.string ⟨n.toArray⟩) (.slice y kids.length c) (.int .i64 p))
  have HROW := Lib.hid hrow
  have HENV := Lib.hid hu
  have HW := Lib.hid hw
  have HIH := Lib.hid ih
  have HL := Lib.hid hl
  have HN := Lib.hid hn
  have HR := Lib.hid hr
  have HA := Lib.hid hA
  have HMAY := Lib.hid h.may
  clear hA hrow hu hw ih hl hn hr h
  go_enter Tryz.func204, Tryz.ntmps204
  go_upto_region 1 with (fail)
  obtain ⟨a, ha⟩ : ∃ a, w.heap.size = a := ⟨_, rfl⟩
  rw [ha] at HB ⊢
  have HAA := Lib.hid ha
  clear ha
  generalize World.alloc w (.cells #[.int .i64 k, .string ⟨n.toArray⟩, .slice y kids.length c, .int .i64 p] 53) = W at HA H0 HB ⊢
  obtain ⟨x0, x1, x2, x3, xf⟩ := HB.out.facts
  obtain ⟨B10, CA⟩ : ∃ B, ((k : Int) == 10) = B := ⟨_, rfl⟩
  obtain ⟨B13, AA⟩ : ∃ B, ((k : Int) == 13) = B := ⟨_, rfl⟩
  go_upto_block 0 with fail
  have BA := Lib.hid CA
  have DA := Lib.hid AA
  clear CA x0 x1 x2 x3 xf
  go_cut [] from 14 to 83 (fun wx => SOk Γ w m ev (exprE ρ k n kids p) wx ∧ Box4 wx a (.int .i64 k) (.string ⟨n.toArray⟩) (.slice y kids.length c) (.int .i64 p))
  case first =>
    have haw : ∀ w1, Owp (MayT Γ) W w1 → Box4 w1 a (.int .i64 k) (.string ⟨n.toArray⟩) (.slice y kids.length c) (.int .i64 p) := fun w1 ho => (ho.block a HB.out.lt (fun hm => by have := HMAY.out a hm; have := HAA.out; omega)).trans HB.out
    have HAW := Lib.hid haw
    clear haw
    cases B10
    · cases B13
      · have hE : exprE ρ k n kids p = [] := by
          have h10 : k ≠ 10 := by have := BA.out; simpa using this
          have h13 : k ≠ 13 := by have := DA.out; simpa using this
          unfold exprE
          rw [if_neg h10, if_neg h13]
        have HE := Lib.hid hE
        have q10 : ((k : Int) == 10) = false := BA.out
        clear hE
        go_wp2_with fail
        go_meet
        case rel =>
          rw [HE.out]
          exact ⟨H0.out, HB.out⟩
      · obtain rfl : k = 13 := by simpa using DA.out
        obtain ⟨X0, r, rfl⟩ : ∃ X0 r, kids = X0 :: r := by
          cases kids with
          | nil => exact absurd rfl (HR.out rfl)
          | cons a b => exact ⟨a, b, rfl⟩
        obtain ⟨k0, m0, l0, p0⟩ := X0
        obtain ⟨B, o, rfl, hat, -⟩ := HROW.out
        obtain ⟨hokb, -, -, -, y0, cv0, hy2, -⟩ := hat
        generalize cv0.val = c0' at hy2
        clear cv0
        have HK0 : Hid (∀ w1, Owp (MayT Γ) W w1 → w1.cell? ⟨B, o + 2, none⟩ = some (.slice y0 l0.length c0')) := Lib.hid fun w1 ho => ho.cell (p := ⟨B, o + 2, none⟩) hokb.ok ((HA.out.cell (p := ⟨B, o + 2, none⟩) (World.block_lt_of_cell? w _ hy2)).trans hy2)
        clear hokb hy2
        have hEX : exprE ρ 13 n (.mk k0 m0 l0 p0 :: r) p = .call n :: (match (findE ρ 1 n false).or (fnB n) with
            | none => [.miss n p]
            | some a => if argc (.mk k0 m0 l0 p0 :: r) = a then [] else [.bad 281 n p]) := by
          unfold exprE
          rw [if_neg (by decide), if_pos rfl] <;> rfl
        have HEX := Lib.hid hEX
        have HARG : Hid (argc (.mk k0 m0 l0 p0 :: r) = l0.length) := Lib.hid rfl
        clear hEX AA
        have hW0 : WSt Γ W m ev := by
          have := H0.out.2.1
          rwa [List.append_nil] at this
        have HW0 := Lib.hid hW0
        obtain ⟨-, -, -, -, -, -, c6, -⟩ := hW0.cells
        obtain ⟨cv, w2, hlook, hupd, hgrow, hcnt⟩ := CntMap.inc (w := W.drew) (b := Γ.cb) (l := calledE ev) (hW0.cal.keep rfl) (Nat.lt_of_le_of_lt (calledE_len ev) (by have := HL.out; omega)) n (by have := HN.out; unfold maxLen; omega)
        obtain ⟨x0, x1, x2, x3, xf⟩ := HB.out.facts
        have H2 : Hid (WSt Γ w2 m (ev ++ [.call n])) := Lib.hid (WSt.called (w := W.drew) (hW0.same fun _ _ => rfl) hgrow hcnt)
        have HO2 : Hid (Owp (MayT Γ) W w2) := by
          have h1 : Owp (MayT Γ) W W.drew := Owp.of_below (Below.refl _ _).drew
          exact h1.trans ⟨hgrow.os, hgrow.tape, hgrow.output, hgrow.size, fun j hj hn => hgrow.block j hj (fun e => by cases e; exact hn (.inr (.inr rfl)))⟩
        have HB2 := Lib.hid (HAW.out w2 HO2.out)
        clear hcnt hW0
        go_upto_region 7 with (fail)
        go_still_tail 8, (by kernel_rfl)
        change wpList _ _ _ _ _ (World.drew W)
        go_upto_region 8 with (fail)
        clear hlook hupd hgrow c6 x0 x1 x2 x3 xf
        obtain ⟨x0, x1, x2, x3, xf⟩ := HB2.out.facts
        obtain ⟨F', cap', hf, -, hc⟩ := env_any _ ρ _ w2 ((HENV.out.below HA.out).owp HO2.out)
        cases hf
        have c0 := hc 1 n false
        unfold TkEnd at c0
        obtain ⟨tx, htx⟩ : ∃ x, tkA ρ 1 n false = x := ⟨_, rfl⟩
        obtain ⟨ty, hty⟩ : ∃ x, tkB ρ 1 n false = x := ⟨_, rfl⟩
        obtain ⟨tz, htz⟩ : ∃ x, (findE ρ 1 n false).isSome = x := ⟨_, rfl⟩
        rw [htx, hty, htz] at c0
        have HTX := Lib.hid htx
        have HTZ := Lib.hid htz
        clear hc htx hty htz
        go_wp2_with fail
        go_at_fn F
        refine c0.mono ?_
        clear c0 x0 x1 x2 x3 xf
        rintro e w3 ⟨rfl, hb3⟩
        have HW3 := Lib.hid (H2.out.below hb3)
        have HO3 := Lib.hid (HO2.out.below hb3)
        clear hb3 H2 HO2 HB2
        go_upto_region 9 with (fail)
        have hal : Below w3.heap.size w3 (w3.alloc (.cells #[.int .i64 tx, .bool ty] 171)) := (Below.refl _ _).alloc (Nat.le_refl _) _
        have HW4 := Lib.hid (HW3.out.below hal)
        have HO4 := Lib.hid (HO3.out.below hal)
        have HT4 := Lib.hid (Box2.new w3 (.int .i64 tx) (.bool ty))
        have hb8a : w.heap.size ≤ w3.heap.size ∧ W.heap.size ≤ w3.heap.size := ⟨Nat.le_trans HA.out.size HO3.out.size, HO3.out.size⟩
        obtain ⟨b8, hb8⟩ : ∃ b8, w3.heap.size = b8 := ⟨_, rfl⟩
        rw [hb8] at HT4 hb8a ⊢
        have HB8 := Lib.hid hb8a
        clear hal HW3 HO3 hb8 hb8a
        generalize World.alloc w3 (.cells #[.int .i64 tx, .bool ty] 171) = w4 at HW4 HO4 HT4 ⊢
        have HB4 := Lib.hid (HAW.out w4 HO4.out)
        cases tz
        · have hfn : findE ρ 1 n false = none := by
            have := HTZ.out
            cases h : findE ρ 1 n false with
            | none => rfl
            | some a => rw [h] at this; cases this
          have HFN := Lib.hid hfn
          clear hfn
          obtain ⟨-, c1, -, -, -, -, -, -⟩ := HW4.out.cells
          obtain ⟨lx, lz, hlook, hlk⟩ := TkMap.look (w := w4.drew) (HW4.out.fns.keep rfl) n (by have := HN.out; unfold maxLen; omega)
          have HLK := Lib.hid hlk
          obtain ⟨x0, x1, x2, x3, xf⟩ := HB4.out.facts
          have t0 : w4.cell? ⟨b8, 0, none⟩ = some (.int .i64 tx) := by simp [World.cell?, HT4.out]
          have t1 : w4.cell? ⟨b8, 1, none⟩ = some (.bool ty) := by simp [World.cell?, HT4.out]
          have tf : ∀ o, w4.frozen? ⟨b8, o, none⟩ = false := fun o => by simp only [World.frozen?, HT4.out]; simp
          obtain ⟨fz, hfz⟩ : ∃ x, ((fnB n).map fun x => (x, false)).isSome = x := ⟨_, rfl⟩
          rw [hfz] at hlook
          have HFZ := Lib.hid hfz
          clear hlk hfz
          go_upto_region 10 with (fail)
          go_region
          go_upto_region 11 with (fail)
          clear hlook c1 x0 x1 x2 x3 xf t0 t1 tf
          have hst : Ow b8 w4 (((World.setCell w4 ⟨b8, 0, none⟩ (.int .i64 lx)).setCell ⟨b8, 1, none⟩ (.bool lz)).drew) := ((((Ow.refl b8 w4).setCell (a := ⟨b8, 0, none⟩) (.inl rfl) _).setCell (a := ⟨b8, 1, none⟩) (.inl rfl) _)).drew
          have hkk : ∀ k, k ≠ b8 → (((World.setCell w4 ⟨b8, 0, none⟩ (.int .i64 lx)).setCell ⟨b8, 1, none⟩ (.bool lz)).drew).heap[k]? = w4.heap[k]? := fun k hk => (Below.heap_setCell _ _ _ _ hk).trans (Below.heap_setCell _ _ _ _ hk)
          have HW5 := Lib.hid (HW0.out.local HW4.out HB8.out.2 hkk)
          have HO5 := Lib.hid (HO4.out.fresh HB8.out.2 hst)
          have HT5 : Hid ((((World.setCell w4 ⟨b8, 0, none⟩ (.int .i64 lx)).setCell ⟨b8, 1, none⟩ (.bool lz)).drew).heap[b8]? = some (.cells #[.int .i64 lx, .bool lz] 171 (0, 0))) := by
            show ((World.setCell w4 ⟨b8, 0, none⟩ (.int .i64 lx)).setCell ⟨b8, 1, none⟩ (.bool lz)).heap[b8]? = _
            simp [World.setCell, Array.getElem?_modify, HT4.out]
          clear hst hkk HW4 HO4 HT4 HB4
          generalize World.drew ((World.setCell w4 ⟨b8, 0, none⟩ (.int .i64 lx)).setCell ⟨b8, 1, none⟩ (.bool lz)) = w5 at HW5 HO5 HT5 ⊢
          have HB5 := Lib.hid (HAW.out w5 HO5.out)
          cases fz
          · have hfb : fnB n = none := by
              have := HFZ.out
              cases h : fnB n with
              | none => rfl
              | some a => rw [h] at this; cases this
            have HE : Hid (exprE ρ 13 n (.mk k0 m0 l0 p0 :: r) p = [.call n] ++ [.miss n p]) := by
              show _ = _
              rw [HEX.out, HFN.out, hfb]
              rfl
            have hlen : (ev ++ [Ev.call n]).length < 2 ^ 40 := by
              have := HL.out
              rw [evE, HE.out] at this
              simp at this ⊢
              omega
            have cm := missing_any Γ HW.out m (ev ++ [.call n]) hlen 13 n HN.out (some ⟨B, o, none⟩) (Nd.mk k0 m0 l0 p0 :: r).length c p w5 HW5.out
            obtain ⟨x0, x1, x2, x3, xf⟩ := HB5.out.facts
            clear hfb hlen
            go_wp2_with fail
            refine cm.mono ?_
            clear cm x0 x1 x2 x3 xf
            have hpre : SOk Γ w m ev [.call n] w5 := ⟨.inr rfl, HW5.out, (Owp.of_below HA.out).trans HO5.out⟩
            have HPRE := Lib.hid hpre
            clear hpre
            rintro e w6 (⟨rfl, hok⟩ | hbad)
            · have HOK := Lib.hid (HPRE.out.trans hok)
              have HO6 := Lib.hid (HO5.out.trans hok.2.2)
              clear hok
              go_wp2_with fail
              go_meet
              case rel =>
                rw [HE.out]
                exact ⟨HOK.out, HAW.out w6 HO6.out⟩
            · have hb2 : SBad Γ w (evE ρ (.mk 13 n (.mk k0 m0 l0 p0 :: r) p)) e w6 := by
                rw [evE, HE.out]
                exact SBad.left (SBad.right HPRE.out hbad) _
              obtain ⟨ch, rfl⟩ := hbad.pan
              exact ⟨rfl, .inr hb2⟩
          · obtain ⟨fa, hfa⟩ : ∃ t, fnB n = some t := by
              have := HFZ.out
              cases h : fnB n with
              | none => rw [h] at this; cases this
              | some a => exact ⟨a, rfl⟩
            obtain ⟨rfl, -⟩ := HLK.out fa false (by rw [hfa]; rfl)
            have HFA : Hid ((findE ρ 1 n false).or (fnB n) = some fa) := by
              show _ = _
              rw [HFN.out, hfa]
              rfl
            clear hfa
            obtain ⟨L, hLL⟩ : ∃ L, l0.length = L := ⟨_, rfl⟩
            have HLL := Lib.hid hLL
            obtain ⟨E, hE⟩ : ∃ E, ((L : Int) != (fa : Int)) = E := ⟨_, rfl⟩
            have hEd : E = !decide (L = fa) := by
              rw [← hE]
              by_cases h : L = fa
              · subst h; simp
              · simp [h, bne]
                omega
            have HED := Lib.hid hEd
            clear hEd
            obtain ⟨x0, x1, x2, x3, xf⟩ := HB5.out.facts
            have t0 : w5.cell? ⟨b8, 0, none⟩ = some (.int .i64 (fa : Nat)) := by simp [World.cell?, HT5.out]
            have y2 := HK0.out w5 HO5.out
            rw [hLL] at y2
            clear hLL
            have hkl : 0 < r.length + 1 := Nat.succ_pos _
            go_upto_region 13 with (fail)
            go_quiet (fail)
            have HW7 : Hid (WSt Γ (w5.drewN nq) m (ev ++ [Ev.call n])) := Lib.hid (HW5.out.same fun _ _ => rfl)
            have HO7 : Hid (Owp (MayT Γ) W (w5.drewN nq)) := Lib.hid (HO5.out.below (bdn (Below.refl _ _) _))
            have HB7 : Hid (Box4 (w5.drewN nq) a (.int .i64 13) (.string ⟨n.toArray⟩) (.slice (some ⟨B, o, none⟩) (Nd.mk k0 m0 l0 p0 :: r).length c) (.int .i64 p)) := Lib.hid HB5.out
            clear x0 x1 x2 x3 xf t0 y2 hE hkl HW5 HO5 HB5 HT5
            generalize World.drewN w5 nq = w7 at HW7 HO7 HB7 ⊢
            obtain ⟨x0, x1, x2, x3, xf⟩ := HB7.out.facts
            have hXE : exprE ρ 13 n (.mk k0 m0 l0 p0 :: r) p = if L = fa then [Ev.call n] else [Ev.call n] ++ [.bad 281 n p] := by
              rw [HEX.out]
              have hargc : argc (.mk k0 m0 l0 p0 :: r) = L := HARG.out.trans HLL.out
              simp only [HFA.out, hargc]
              split <;> rfl
            have HXE := Lib.hid hXE
            clear hXE
            cases E
            · have hLa : L = fa := by have := HED.out; simpa using this
              have HLA := Lib.hid hLa
              clear hLa
              go_wp2_with fail
              go_meet
              case rel =>
                rw [HXE.out, if_pos HLA.out]
                exact ⟨⟨.inr rfl, HW7.out, (Owp.of_below HA.out).trans HO7.out⟩, HB7.out⟩
            · have hLa : ¬ L = fa := by have := HED.out; simpa using this
              have HLA := Lib.hid hLa
              clear hLa
              obtain ⟨-, -, -, -, c4, -, -, -⟩ := HW7.out.cells
              have hw2 := HW.out.2 13 n (some ⟨B, o, none⟩) (Nd.mk k0 m0 l0 p0 :: r).length c p 281 w7.drew
              have egw := HW.out.1
              go_upto_region 14 with (fail)
              go_still_tail 5, (by kernel_rfl)
              change wpList _ _ _ _ _ (World.drew w7)
              have HW8 : Hid (WSt Γ w7.drew m (ev ++ [Ev.call n])) := Lib.hid (HW7.out.same fun _ _ => rfl)
              have HO8 : Hid (Owp (MayT Γ) W w7.drew) := Lib.hid (HO7.out.below (Below.refl _ _).drew)
              clear HW7 HO7 HB7
              generalize World.drew w7 = w8 at *
              go_wp2_with fail
              go_at_fn Γ.wf
              refine hw2.mono ?_
              clear hw2 x0 x1 x2 x3 xf c4
              rintro e w9 (⟨ha, rfl, hb⟩ | ⟨ha, hb, b, hbl, rfl, hf⟩)
              · have HO9 := Lib.hid (HO8.out.below hb)
                have HOK : Hid (SOk Γ w m ev (exprE ρ 13 n (.mk k0 m0 l0 p0 :: r) p) w9) := by
                  show SOk _ _ _ _ _ _
                  rw [HXE.out, if_neg HLA.out]
                  refine ⟨.inl ha, ?_, (Owp.of_below HA.out).trans HO9.out⟩
                  rw [← List.append_assoc]
                  exact (HW8.out.below hb).badly _ _ _
                clear ha hb
                go_wp2_with fail
                go_meet
                case rel => exact ⟨HOK.out, HAW.out w9 HO9.out⟩
              · have HO9 := Lib.hid (HO8.out.below hb)
                refine ⟨rfl, .inr ?_⟩
                rw [evE, HXE.out, if_neg HLA.out]
                exact SBad.left ⟨ha, 281, n, p, b, rfl, by have := (Owp.of_below (P := MayT Γ) HA.out).trans HO8.out; have := this.size; omega, rfl, hf, (Owp.of_below HA.out).trans HO9.out⟩ _
        · obtain ⟨tw, htw⟩ : ∃ t, findE ρ 1 n false = some t := by
            have := HTZ.out
            cases h : findE ρ 1 n false with
            | none => rw [h] at this; cases this
            | some a => exact ⟨a, rfl⟩
          have hta : tx = tw := by rw [← HTX.out, tkA, htw]; rfl
          subst hta
          have HFA : Hid ((findE ρ 1 n false).or (fnB n) = some tx) := by
            show _ = _
            rw [htw]
            rfl
          clear htw
          obtain ⟨L, hLL⟩ : ∃ L, l0.length = L := ⟨_, rfl⟩
          have HLL := Lib.hid hLL
          obtain ⟨E, hE⟩ : ∃ E, ((L : Int) != (tx : Int)) = E := ⟨_, rfl⟩
          have hEd : E = !decide (L = tx) := by
            rw [← hE]
            by_cases h : L = tx
            · subst h; simp
            · simp [h, bne]
              omega
          have HED := Lib.hid hEd
          clear hEd
          obtain ⟨x0, x1, x2, x3, xf⟩ := HB4.out.facts
          have t0 : w4.cell? ⟨b8, 0, none⟩ = some (.int .i64 (tx : Nat)) := by simp [World.cell?, HT4.out]
          have y2 := HK0.out w4 HO4.out
          rw [hLL] at y2
          clear hLL
          have hkl : 0 < r.length + 1 := Nat.succ_pos _
          go_upto_region 13 with (fail)
          go_quiet (fail)
          have HW7 : Hid (WSt Γ (w4.drewN nq) m (ev ++ [Ev.call n])) := Lib.hid (HW4.out.same fun _ _ => rfl)
          have HO7 : Hid (Owp (MayT Γ) W (w4.drewN nq)) := Lib.hid (HO4.out.below (bdn (Below.refl _ _) _))
          have HB7 : Hid (Box4 (w4.drewN nq) a (.int .i64 13) (.string ⟨n.toArray⟩) (.slice (some ⟨B, o, none⟩) (Nd.mk k0 m0 l0 p0 :: r).length c) (.int .i64 p)) := Lib.hid HB4.out
          clear x0 x1 x2 x3 xf t0 y2 hE hkl HW4 HO4 HB4 HT4
          generalize World.drewN w4 nq = w7 at HW7 HO7 HB7 ⊢
          obtain ⟨x0, x1, x2, x3, xf⟩ := HB7.out.facts
          have hXE : exprE ρ 13 n (.mk k0 m0 l0 p0 :: r) p = if L = tx then [Ev.call n] else [Ev.call n] ++ [.bad 281 n p] := by
            rw [HEX.out]
            have hargc : argc (.mk k0 m0 l0 p0 :: r) = L := HARG.out.trans HLL.out
            simp only [HFA.out, hargc]
            split <;> rfl
          have HXE := Lib.hid hXE
          clear hXE
          cases E
          · have hLa : L = tx := by have := HED.out; simpa using this
            have HLA := Lib.hid hLa
            clear hLa
            go_wp2_with fail
            go_meet
            case rel =>
              rw [HXE.out, if_pos HLA.out]
              exact ⟨⟨.inr rfl, HW7.out, (Owp.of_below HA.out).trans HO7.out⟩, HB7.out⟩
          · have hLa : ¬ L = tx := by have := HED.out; simpa using this
            have HLA := Lib.hid hLa
            clear hLa
            obtain ⟨-, -, -, -, c4, -, -, -⟩ := HW7.out.cells
            have hw2 := HW.out.2 13 n (some ⟨B, o, none⟩) (Nd.mk k0 m0 l0 p0 :: r).length c p 281 w7.drew
            have egw := HW.out.1
            go_upto_region 14 with (fail)
            go_still_tail 5, (by kernel_rfl)
            change wpList _ _ _ _ _ (World.drew w7)
            have HW8 : Hid (WSt Γ w7.drew m (ev ++ [Ev.call n])) := Lib.hid (HW7.out.same fun _ _ => rfl)
            have HO8 : Hid (Owp (MayT Γ) W w7.drew) := Lib.hid (HO7.out.below (Below.refl _ _).drew)
            clear HW7 HO7 HB7
            generalize World.drew w7 = w8 at *
            go_wp2_with fail
            go_at_fn Γ.wf
            refine hw2.mono ?_
            clear hw2 x0 x1 x2 x3 xf c4
            rintro e w9 (⟨ha, rfl, hb⟩ | ⟨ha, hb, b, hbl, rfl, hf⟩)
            · have HO9 := Lib.hid (HO8.out.below hb)
              have HOK : Hid (SOk Γ w m ev (exprE ρ 13 n (.mk k0 m0 l0 p0 :: r) p) w9) := by
                show SOk _ _ _ _ _ _
                rw [HXE.out, if_neg HLA.out]
                refine ⟨.inl ha, ?_, (Owp.of_below HA.out).trans HO9.out⟩
                rw [← List.append_assoc]
                exact (HW8.out.below hb).badly _ _ _
              clear ha hb
              go_wp2_with fail
              go_meet
              case rel => exact ⟨HOK.out, HAW.out w9 HO9.out⟩
            · have HO9 := Lib.hid (HO8.out.below hb)
              refine ⟨rfl, .inr ?_⟩
              rw [evE, HXE.out, if_neg HLA.out]
              exact SBad.left ⟨ha, 281, n, p, b, rfl, by have := (Owp.of_below (P := MayT Γ) HA.out).trans HO8.out; have := this.size; omega, rfl, hf, (Owp.of_below HA.out).trans HO9.out⟩ _
    · clear AA
      obtain rfl : k = 10 := by simpa using BA.out
      have hE : exprE ρ 10 n kids p = if (findE ρ 0 n false).isNone && !truthB n then [.miss n p] else [] := by unfold exprE; rw [if_pos rfl]
      obtain ⟨F', cap', hf, -, hc⟩ := env_any _ ρ _ W (HENV.out.below HA.out)
      cases hf
      have c0 := hc 0 n false
      unfold TkEnd at c0
      obtain ⟨tx, htx⟩ : ∃ x, tkA ρ 0 n false = x := ⟨_, rfl⟩
      obtain ⟨ty, hty⟩ : ∃ x, tkB ρ 0 n false = x := ⟨_, rfl⟩
      obtain ⟨tz, htz⟩ : ∃ x, (findE ρ 0 n false).isSome = x := ⟨_, rfl⟩
      rw [htx, hty, htz] at c0
      have hnone : (findE ρ 0 n false).isNone = !tz := by rw [← htz]; cases findE ρ 0 n false <;> rfl
      rw [hnone] at hE
      have HE := Lib.hid hE
      clear hc htx hty htz hnone hE
      obtain ⟨x0, x1, x2, x3, xf⟩ := HB.out.facts
      go_wp2_with fail
      go_at_fn F
      refine c0.mono ?_
      clear c0 x0 x1 x2 x3 xf
      rintro e w1 ⟨rfl, hb1⟩
      have HW1 := Lib.hid (H0.out.2.1.below hb1)
      have HO1 : Hid (Owp (MayT Γ) W w1) := Lib.hid (Owp.of_below hb1)
      clear hb1
      go_upto_region 4 with (fail)
      have hal : Below w1.heap.size w1 (w1.alloc (.cells #[.int .i64 tx, .bool ty] 171)) := (Below.refl _ _).alloc (Nat.le_refl _) _
      have HW2 := Lib.hid (HW1.out.below hal)
      have HO2 := Lib.hid (HO1.out.below hal)
      clear hal HW1 HO1
      generalize World.alloc w1 (.cells #[.int .i64 tx, .bool ty] 171) = w2 at HW2 HO2 ⊢
      have HO : Hid (Owp (MayT Γ) w w2) := Lib.hid ((Owp.of_below HA.out).trans HO2.out)
      have HB2 := Lib.hid (HAW.out w2 HO2.out)
      obtain ⟨x0, x1, x2, x3, xf⟩ := HB2.out.facts
      rw [List.append_nil] at HW2
      cases tz
      · have ct := truth_any n w2
        obtain ⟨tb, htb⟩ : ∃ x, truthB n = x := ⟨_, rfl⟩
        rw [htb] at ct HE
        clear htb
        cases tb
        · have HE' : Hid (exprE ρ 10 n kids p = [.miss n p]) := HE.out
          go_wp2_with (first | (go_at_call 203; (with_reducible refine ct.mono ?_); rintro e w3 ⟨rfl, rfl⟩))
          have hlen : ev.length < 2 ^ 40 := by have := HL.out; omega
          have cm := missing_any Γ HW.out m ev hlen 10 n HN.out y kids.length c p w2 HW2.out
          clear hlen
          refine cm.mono ?_
          clear cm
          rintro e w3 (⟨rfl, hok⟩ | hbad)
          · have HOK := Lib.hid hok
            clear hok
            go_wp2_with fail
            go_meet
            case rel =>
              rw [HE'.out]
              refine ⟨⟨HOK.out.1, HOK.out.2.1, HO.out.trans HOK.out.2.2⟩, ?_⟩
              exact HAW.out w3 (HO2.out.trans HOK.out.2.2)
          · have hb2 : SBad Γ w (evE ρ (.mk 10 n kids p)) e w3 := by
              rw [evE, HE'.out]
              exact SBad.left (SBad.right (ev := ev) (m := m) (e1 := []) ⟨.inr rfl, HW2.out.nil, HO.out⟩ hbad) _
            obtain ⟨ch, rfl⟩ := hbad.pan
            exact ⟨rfl, .inr hb2⟩
        · have HE' : Hid (exprE ρ 10 n kids p = []) := HE.out
          go_wp2_with (first | (go_at_call 203; (with_reducible refine ct.mono ?_); rintro e w3 ⟨rfl, rfl⟩))
          go_meet
          case rel =>
            rw [HE'.out]
            exact ⟨⟨.inr rfl, HW2.out.nil, HO.out⟩, HB2.out⟩
      · have HE' : Hid (exprE ρ 10 n kids p = []) := HE.out
        go_wp2_with fail
        go_meet
        case rel =>
          rw [HE'.out]
          exact ⟨⟨.inr rfl, HW2.out.nil, HO.out⟩, HB2.out⟩
  case rest =>
    obtain ⟨hok, hbx⟩ := hcut
    obtain ⟨x0, x1, x2, x3, xf⟩ := hbx.facts
    have HOK := Lib.hid hok
    obtain ⟨len, hlen⟩ : ∃ len, kids.length = len := ⟨_, rfl⟩
    have HLN := Lib.hid hlen
    rw [hlen] at x2 hk
    clear hok hbx HB H0 AA hlen
    go_wp2_with fail
    go_loopg [87] len (fun g v wx => ∃ i : Nat, v = .int .i64 i ∧ i + g = len ∧ SOk Γ w m ev (exprE ρ k n kids p ++ evEs ρ (kids.take i)) wx)
    case atStart => exact ⟨0, rfl, by omega, by simpa [evEs] using HOK.out⟩
    case round =>
      clear HOK x0 x1 x2 x3 xf
      obtain ⟨i, rfl, hi, hok⟩ := hrel
      have HOK := Lib.hid hok
      clear hok
      by_cases hlt : i < len
      · obtain ⟨x, hx⟩ : ∃ x, kids[i]? = some x := ⟨kids[i]'(by have := HLN.out; omega), List.getElem?_eq_getElem _⟩
        have hmem := List.mem_of_getElem? hx
        obtain ⟨B, o, rfl, hat⟩ := (NdRow.mono (fun _ h _ => h) (fun b hb hl => HOK.out.2.2.block b hl hb) _ _ HROW.out : NdRow wr (fun b => ¬ MayT Γ b) kids y).at_ hx
        have hevs : evEs ρ (kids.take (i + 1)) = evEs ρ (kids.take i) ++ evE ρ x := by rw [List.take_add_one, hx]; exact evEs_snoc ρ _ x
        have hcat : exprE ρ k n kids p ++ evEs ρ kids = (exprE ρ k n kids p ++ evEs ρ (kids.take i)) ++ (evE ρ x ++ evEs ρ (kids.drop (i + 1))) := by
          have h1 : kids = kids.take (i + 1) ++ kids.drop (i + 1) := (List.take_append_drop _ _).symm
          have h2 : evEs ρ kids = evEs ρ (kids.take (i + 1)) ++ evEs ρ (kids.drop (i + 1)) := by
            conv => lhs; rw [h1]
            exact evEs_app ρ _ _
          rw [h2, hevs]
          simp only [List.append_assoc]
        obtain ⟨k1, n1, l1, p1⟩ := x
        obtain ⟨-, z0, z1, z3, y1, c1, z2, hk1⟩ := hat
        have HX := Lib.hid (HIH.out _ hmem)
        have HEV := Lib.hid hevs
        have HCAT := Lib.hid hcat
        have HK1 := Lib.hid hk1
        have hlt' : (i : Int) < (len : Int) := by omega
        have Qi1 : IntKind.i64.wrap ((i : Int) + 1) = (i : Int) + 1 := IntWalk.i64_in _ (by omega)
        clear hx hmem hevs hcat hk1
        go_upto_region 18 with (fail)
        have hal : Below wr.heap.size wr (wr.alloc (.cells #[.int .i64 k1, .string ⟨n1.toArray⟩, .slice y1 l1.length c1, .int .i64 p1] 53)) := (Below.refl _ _).alloc (Nat.le_refl _) _
        have HO1 : Hid (Owp (MayT Γ) w (wr.alloc (.cells #[.int .i64 k1, .string ⟨n1.toArray⟩, .slice y1 l1.length c1, .int .i64 p1] 53))) := Lib.hid (HOK.out.2.2.below hal)
        have HW1 := Lib.hid (HOK.out.2.1.below hal)
        have HK2 := Lib.hid (HK1.out.below hal)
        have HBX := Lib.hid (Box4.new wr (.int .i64 k1) (.string ⟨n1.toArray⟩) (.slice y1 l1.length c1) (.int .i64 p1))
        have HC1 := Lib.hid HOK.out.1
        clear z0 z1 z2 z3 HOK HK1 hal
        obtain ⟨bx, hbx⟩ : ∃ bx, wr.heap.size = bx := ⟨_, rfl⟩
        rw [hbx] at HBX ⊢
        clear hbx
        generalize World.alloc wr (.cells #[.int .i64 k1, .string ⟨n1.toArray⟩, .slice y1 l1.length c1, .int .i64 p1] 53) = w1 at HO1 HW1 HK2 HBX ⊢
        obtain ⟨x0, x1, x2, x3, xf⟩ := HBX.out.facts
        have hpre : SOk Γ w m ev (exprE ρ k n kids p ++ evEs ρ (kids.take i)) w1 := ⟨HC1.out, HW1.out, HO1.out⟩
        have HPRE := Lib.hid hpre
        have cx := HX.out w1 m _ ρ (.agg #[.int .i64 k1, .string ⟨n1.toArray⟩, .slice y1 l1.length c1, .int .i64 p1]) _ ⟨y1, c1, rfl, HK2.out⟩ (HENV.out.owp HO1.out) HW1.out (by
          have := HL.out
          rw [evE, HCAT.out] at this
          simp only [List.length_append] at this ⊢
          omega)
        clear hpre
        go_wp2_with fail
        refine cx.mono ?_
        clear cx x0 x1 x2 x3 xf
        rintro e w2 (⟨rfl, hok⟩ | hbad)
        · have HOK : Hid (SOk Γ w m ev (exprE ρ k n kids p ++ evEs ρ (kids.take (i + 1))) w2) := by
            show SOk _ _ _ _ _ _
            rw [HEV.out, ← List.append_assoc]
            exact HPRE.out.trans hok
          clear hok
          go_wp2_with fail
          go_roundg (gk - 1)
          case measure => omega
          case rel => exact ⟨i + 1, rfl, by omega, HOK.out⟩
        · have hb2 : SBad Γ w (evE ρ (.mk k n kids p)) e w2 := by
            rw [evE, HCAT.out]
            exact SBad.right HPRE.out (SBad.left hbad _)
          obtain ⟨ch, rfl⟩ := hbad.pan
          exact ⟨rfl, .inr hb2⟩
      · have hlt' : ¬ (i : Int) < (len : Int) := by omega
        have HE : Hid (SOk Γ w m ev (evE ρ (.mk k n kids p)) wr) := by
          show SOk _ _ _ _ _ _
          have := HOK.out
          rw [List.take_of_length_le (by have := HLN.out; omega)] at this
          rw [evE]
          exact this
        clear HOK
        go_wp2_with fail
        go_end0
        exact .inl ⟨rfl, HE.out⟩
end Go.Proofs.YtpbkeamjdolpgaaGreatDoor
namespace Go.Proofs.YtpbkeamjdolpgaaGreatDoor
open Go.RowKit Go.Lib
open Go.Maps (Keyed)

theorem exsR_each : ∀ {l : List Nd}, exsR l = true → ∀ x ∈ l, exR x = true
  | y :: r, h, x, hx => by
    have h' : (exR y && exsR r) = true := h
    rw [Bool.and_eq_true] at h'
    rcases List.mem_cons.1 hx with rfl | hx
    · exact h'.1
    · exact exsR_each h'.2 x hx
theorem shR_nil_cons (z : Nd) (r : List Nd) : shR [] (z :: r) = false := by simp [shR]
theorem sexpr_any (Γ : SCtx) (hw : WrongOk Γ) : ∀ (N : Nat) (x : Nd), wtN x < N → wtN x < 2 ^ 40 → (exR x = true ∨ partR x = true ∧ x.kind = 8) → ExprOk Γ x
  | N + 1, .mk k n kids p, hN, hs, hx => by
    rw [wtN_mk] at hN hs
    have hlen := len_wtL kids
    have hk : ∀ y ∈ kids, exR y = true ∨ partR y = true ∧ y.kind = 8 := by
      intro y hy
      rcases hx with hx | ⟨hx, h8⟩
      · have h0 : exR (.mk k n kids p) = (if k = 9 then numR n && kids.isEmpty
          else if k = 10 then plainR n && kids.isEmpty
          else if k = 11 then n.isEmpty && exsR kids
          else if k = 12 then (if kids.length = 1 then (decide (n = [45]) || decide (n = [33])) && exsR kids else decide (0 < levelS n) && decide (kids.length = 2) && exsR kids)
          else if k = 13 then plainR n && shR [8] kids
          else if k = 14 then n.isEmpty && decide (kids.length = 2) && exsR kids
          else if k = 15 then n.isEmpty && decide (kids.length = 3) && exsR kids
          else false) := by rw [exR]
        rw [h0] at hx
        have he : ∀ {b : Bool}, (b && kids.isEmpty) = true → False := fun h => by
          simp at h
          rw [h.2] at hy
          cases hy
        have hee : ∀ {b : Bool}, (b && exsR kids) = true → exR y = true ∨ partR y = true ∧ y.kind = 8 := fun h => by
          rw [Bool.and_eq_true] at h
          exact .inl (exsR_each h.2 y hy)
        by_cases k9 : k = 9
        · rw [if_pos k9] at hx; exact (he hx).elim
        rw [if_neg k9] at hx
        by_cases k10 : k = 10
        · rw [if_pos k10] at hx; exact (he hx).elim
        rw [if_neg k10] at hx
        by_cases k11 : k = 11
        · rw [if_pos k11] at hx; exact hee hx
        rw [if_neg k11] at hx
        by_cases k12 : k = 12
        · rw [if_pos k12] at hx
          split at hx
          · exact hee hx
          · exact hee hx
        rw [if_neg k12] at hx
        by_cases k13 : k = 13
        · rw [if_pos k13] at hx
          rw [Bool.and_eq_true] at hx
          have h2 := hx.2
          cases kids with
          | nil => cases hy
          | cons z r =>
            cases r with
            | nil =>
              have h3 : (decide (z.kind = 8) && partR z) = true := by
                rw [shR, shR] at h2
                simpa using h2
              rw [Bool.and_eq_true] at h3
              rw [List.mem_singleton] at hy
              subst hy
              exact .inr ⟨h3.2, by simpa using h3.1⟩
            | cons z2 r2 =>
              have h3 : shR [8] (z :: z2 :: r2) = ((if (8 : Int) < 0 then exR z else decide (z.kind = 8) && partR z) && shR [] (z2 :: r2)) := by rw [shR]
              rw [h3, shR_nil_cons, Bool.and_false] at h2
              cases h2
        rw [if_neg k13] at hx
        by_cases k14 : k = 14
        · rw [if_pos k14] at hx; exact hee hx
        rw [if_neg k14] at hx
        by_cases k15 : k = 15
        · rw [if_pos k15] at hx; exact hee hx
        rw [if_neg k15] at hx
        cases hx
      · have h8' : k = 8 := h8
        subst h8'
        have h2 : (n.isEmpty && exsR kids) = true := by
          rw [partR] at hx
          simpa using hx
        rw [Bool.and_eq_true] at h2
        exact .inl (exsR_each h2.2 y hy)
    refine sexpr_step Γ hw k n kids p (by omega) (by omega) ?_ fun y hy => ?_
    · rintro rfl rfl
      rcases hx with hx | ⟨-, h8⟩
      · rw [exR] at hx
        simp [shR] at hx
      · cases h8
    · have := wtL_mem hy
      exact sexpr_any Γ hw N y (by omega) (by omega) (hk y hy)
def envSs (ρ : Env) (l : List Nd) : Env := l.foldl envS ρ
theorem evSs_app : ∀ (a b : List Nd) (ρ : Env) (m : Nat), evSs (a ++ b) ρ m = evSs a ρ m ++ evSs b (envSs ρ a) m
  | [], _, _, _ => by simp [evSs, envSs]
  | x :: r, b, ρ, m => by
    rw [List.cons_append, evSs, evSs, evSs_app r b, List.append_assoc]
    rfl
def StmtOk (Γ : SCtx) (x : Nd) : Prop := ∀ (w : World) (m : Nat) (ev : List Ev) (ρ : Env) (v u : Value), NdVal w (fun b => ¬ MayT Γ b) x v → EnvAt w (MayT Γ) ρ u → WSt Γ w m ev → m + wtN x < 2 ^ 40 → ev.length + (evS x ρ m).length < 2 ^ 40 →
  Calls Tryz.prog 176 #[.pointer (some ⟨Γ.wb, 0, none⟩), v, u] w (SEndE Γ w m ev (evS x ρ m) (envS ρ x))
def BlockOk (Γ : SCtx) (l : List Nd) : Prop := ∀ (w : World) (m : Nat) (ev : List Ev) (ρ : Env) (y : Option Addr) (c : Nat) (u : Value), NdRow w (fun b => ¬ MayT Γ b) l y → EnvAt w (MayT Γ) ρ u → WSt Γ w m ev → m + wtL l < 2 ^ 40 → ev.length + (evSs l (none :: ρ) m).length < 2 ^ 40 →
  Calls Tryz.prog 134 #[.pointer (some ⟨Γ.wb, 0, none⟩), .slice y l.length c, u] w (SEnd Γ w m ev (evSs l (none :: ρ) m))
set_option maxHeartbeats 4000000 in
set_option maxRecDepth 100000 in
theorem block_step (Γ : SCtx) (l : List Nd) (ih : ∀ x ∈ l, StmtOk Γ x) : BlockOk Γ l := by
  intro w m ev ρ y c u hrow hu h hwt hl
  have cw := within_any (MayT Γ) ρ u w hu h.may
  have HH := Lib.hid h
  have HROW := Lib.hid hrow
  have HIH := Lib.hid ih
  have HL := Lib.hid hl
  have HWT := Lib.hid hwt
  have hk : l.length < 2 ^ 40 := by
    have := len_wtL l
    omega
  obtain ⟨len, hlen⟩ : ∃ len, l.length = len := ⟨_, rfl⟩
  have HLN := Lib.hid hlen
  rw [hlen] at hk ⊢
  clear h hrow ih hl hu hwt hlen
  go_enter Tryz.func134, Tryz.ntmps134
  go_wp2_with fail
  refine cw.mono ?_
  clear cw
  rintro e w1 ⟨u1, rfl, he1, hb1⟩
  have HE1 := Lib.hid he1
  have HOK1 := Lib.hid (SOk.start HH.out hb1)
  clear he1 hb1
  go_wp2_with fail
  go_loopg [2, 12] len (fun g u v wx => ∃ i : Nat, v = .int .i64 i ∧ i + g = len ∧ EnvAt wx (MayT Γ) (envSs (none :: ρ) (l.take i)) u ∧ SOk Γ w m ev (evSs (l.take i) (none :: ρ) m) wx)
  case atStart => exact ⟨0, rfl, by omega, HE1.out, by simpa [evSs] using HOK1.out⟩
  case round =>
    clear HOK1 HE1
    obtain ⟨i, rfl, hi, hen, hok⟩ := hrel
    have HEN := Lib.hid hen
    have HOK := Lib.hid hok
    clear hok hen
    by_cases hlt : i < len
    · obtain ⟨x, hx⟩ : ∃ x, l[i]? = some x := ⟨l[i]'(by have := HLN.out; omega), List.getElem?_eq_getElem _⟩
      have hmem := List.mem_of_getElem? hx
      obtain ⟨B, o, rfl, hat⟩ := (NdRow.mono (fun _ h _ => h) (fun b hb hl => HOK.out.2.2.block b hl hb) _ _ HROW.out : NdRow wr (fun b => ¬ MayT Γ b) l y).at_ hx
      have htk : l.take (i + 1) = l.take i ++ [x] := by rw [List.take_add_one, hx]; rfl
      have hevs : evSs (l.take (i + 1)) (none :: ρ) m = evSs (l.take i) (none :: ρ) m ++ evS x (envSs (none :: ρ) (l.take i)) m := by
        rw [htk, evSs_app]
        show _ ++ (evS x _ m ++ []) = _
        rw [List.append_nil]
      have henv : envSs (none :: ρ) (l.take (i + 1)) = envS (envSs (none :: ρ) (l.take i)) x := by
        rw [htk]
        unfold envSs
        rw [List.foldl_append]
        rfl
      obtain ⟨E2, hcat⟩ : ∃ E2, evSs l (none :: ρ) m = evSs (l.take i) (none :: ρ) m ++ (evS x (envSs (none :: ρ) (l.take i)) m ++ E2) := by
        refine ⟨evSs (l.drop (i + 1)) (envSs (none :: ρ) (l.take (i + 1))) m, ?_⟩
        have h1 : l = l.take (i + 1) ++ l.drop (i + 1) := (List.take_append_drop _ _).symm
        conv => lhs; rw [h1]
        rw [evSs_app, hevs, List.append_assoc]
      have hwx := wtL_mem hmem
      obtain ⟨k1, n1, l1, p1⟩ := x
      obtain ⟨-, z0, z1, z3, y1, c1, z2, hk1⟩ := hat
      have HX := Lib.hid (HIH.out _ hmem)
      have HEV := Lib.hid hevs
      have HNV := Lib.hid henv
      have HCAT := Lib.hid hcat
      have HK1 := Lib.hid hk1
      have HWX := Lib.hid hwx
      have hlt' : (i : Int) < (len : Int) := by omega
      have Qi1 : IntKind.i64.wrap ((i : Int) + 1) = (i : Int) + 1 := IntWalk.i64_in _ (by omega)
      clear hx hmem hevs hcat hk1 henv htk hwx
      go_upto_region 4 with (fail)
      have hal : Below wr.heap.size wr (wr.alloc (.cells #[.int .i64 k1, .string ⟨n1.toArray⟩, .slice y1 l1.length c1, .int .i64 p1] 53)) := (Below.refl _ _).alloc (Nat.le_refl _) _
      have HO1 : Hid (Owp (MayT Γ) w (wr.alloc (.cells #[.int .i64 k1, .string ⟨n1.toArray⟩, .slice y1 l1.length c1, .int .i64 p1] 53))) := Lib.hid (HOK.out.2.2.below hal)
      have HW1 := Lib.hid (HOK.out.2.1.below hal)
      have HK2 := Lib.hid (HK1.out.below hal)
      have HEN1 := Lib.hid (HEN.out.below hal)
      have HBX := Lib.hid (Box4.new wr (.int .i64 k1) (.string ⟨n1.toArray⟩) (.slice y1 l1.length c1) (.int .i64 p1))
      have HC1 := Lib.hid HOK.out.1
      clear z0 z1 z2 z3 HOK HK1 hal HEN
      obtain ⟨bx, hbx⟩ : ∃ bx, wr.heap.size = bx := ⟨_, rfl⟩
      rw [hbx] at HBX ⊢
      clear hbx
      generalize World.alloc wr (.cells #[.int .i64 k1, .string ⟨n1.toArray⟩, .slice y1 l1.length c1, .int .i64 p1] 53) = w2 at HO1 HW1 HK2 HBX HEN1 ⊢
      obtain ⟨x0, x1, x2, x3, xf⟩ := HBX.out.facts
      have hpre : SOk Γ w m ev (evSs (l.take i) (none :: ρ) m) w2 := ⟨HC1.out, HW1.out, HO1.out⟩
      have HPRE := Lib.hid hpre
      have cx := HX.out w2 m _ (envSs (none :: ρ) (l.take i)) (.agg #[.int .i64 k1, .string ⟨n1.toArray⟩, .slice y1 l1.length c1, .int .i64 p1]) _ ⟨y1, c1, rfl, HK2.out⟩ HEN1.out HW1.out (by
        have := HWT.out
        have := HWX.out
        omega) (by
        have := HL.out
        rw [HCAT.out] at this
        simp only [List.length_append] at this ⊢
        omega)
      clear hpre
      go_wp2_with fail
      refine cx.mono ?_
      clear cx x0 x1 x2 x3 xf
      rintro e w3 (⟨u3, rfl, he3, hok⟩ | hbad)
      · have HOK : Hid (SOk Γ w m ev (evSs (l.take (i + 1)) (none :: ρ) m) w3) := by
          show SOk _ _ _ _ _ _
          rw [HEV.out]
          exact HPRE.out.trans hok
        have HEN3 : Hid (EnvAt w3 (MayT Γ) (envSs (none :: ρ) (l.take (i + 1))) u3) := by
          show EnvAt _ _ _ _
          rw [HNV.out]
          exact he3
        clear hok he3
        go_wp2_with fail
        go_roundg (gk - 1)
        case measure => omega
        case rel => exact ⟨i + 1, rfl, by omega, HEN3.out, HOK.out⟩
      · have hb2 : SBad Γ w (evSs l (none :: ρ) m) e w3 := by
          rw [HCAT.out]
          exact SBad.right HPRE.out (SBad.left hbad _)
        obtain ⟨ch, rfl⟩ := hbad.pan
        exact ⟨rfl, .inr hb2⟩
    · have hlt' : ¬ (i : Int) < (len : Int) := by omega
      have HE : Hid (SOk Γ w m ev (evSs l (none :: ρ) m) wr) := by
        show SOk _ _ _ _ _ _
        have := HOK.out
        rw [List.take_of_length_le (by have := HLN.out; omega)] at this
        exact this
      clear HOK HEN
      go_wp2_with fail
      go_end0
      exact .inl ⟨rfl, HE.out⟩
end Go.Proofs.YtpbkeamjdolpgaaGreatDoor
namespace Go.Proofs.YtpbkeamjdolpgaaGreatDoor
open Go.RowKit Go.Lib
open Go.Maps (Keyed)

def cntE (R : Option (Nat × Bool)) (n : List UInt8) (c len : Nat) (p : Int) : List Ev := match R with
  | none => [.miss n p]
  | some (a, bl) => if c ≠ a ∨ (1 < len ∧ bl = false) then [.bad 281 n p] else []
def mdlE (ρ : Env) (m : Nat) (n : List UInt8) : Option (Nat × Bool) := ((findE ρ 2 n false).map fun a => (a, true)).or (if n = wChildren ∧ m = 0 then none else mdB n)
theorem callE_eq (ρ : Env) (m : Nat) (n : List UInt8) (kids : List Nd) (p : Int) : callE ρ m n kids p = [.call n] ++ cntE (mdlE ρ m n) n (argc kids) kids.length p := rfl
def CallOk (Γ : SCtx) (k : Int) (n : List UInt8) (kids : List Nd) (p : Int) : Prop := ∀ (w : World) (m : Nat) (ev : List Ev) (ρ : Env) (v u : Value), NdVal w (fun b => ¬ MayT Γ b) (.mk k n kids p) v → EnvAt w (MayT Γ) ρ u → WSt Γ w m ev → m + wtL kids < 2 ^ 40 →
  ev.length + (callE ρ m n kids p ++ (evEs ρ (bodyOf kids) ++ evT kids ρ m)).length < 2 ^ 40 →
  Calls Tryz.prog 207 #[.pointer (some ⟨Γ.wb, 0, none⟩), v, u] w (SEnd Γ w m ev (callE ρ m n kids p ++ (evEs ρ (bodyOf kids) ++ evT kids ρ m)))
set_option maxHeartbeats 4000000 in
set_option maxRecDepth 100000 in
theorem call_step (Γ : SCtx) (hw : WrongOk Γ) (k : Int) (n : List UInt8) (k0 : Int) (n0 : List UInt8) (l0 : List Nd) (p0 : Int) (r : List Nd) (p : Int) (hr : r.length ≤ 1) (hn : n.length < 2 ^ 40) (ihE : ∀ x ∈ l0, ExprOk Γ x) (ihB : ∀ x ∈ r, BlockOk Γ x.kids) :
    CallOk Γ k n (.mk k0 n0 l0 p0 :: r) p := by
  intro w m ev ρ v u hv hu h hwt hl
  obtain ⟨y, cv, rfl, hrow⟩ := hv
  generalize cv.val = c
  clear cv
  obtain ⟨B, o, rfl, hat, hrow1⟩ := hrow
  obtain ⟨hokb, -, -, -, y0, cv0, hy2, hk0⟩ := hat
  generalize cv0.val = c0' at hy2
  clear cv0
  have hA : Below w.heap.size w (w.alloc (.cells #[.int .i64 k, .string ⟨n.toArray⟩, .slice (some ⟨B, o, none⟩) (Nd.mk k0 n0 l0 p0 :: r).length c, .int .i64 p] 53)) := (Below.refl _ _).alloc (Nat.le_refl _) _
  obtain ⟨F, cap, rfl, eg, -⟩ := env_any _ ρ u w hu
  obtain ⟨K, hK⟩ : ∃ K, (Nd.mk k0 n0 l0 p0 :: r).length = K := ⟨_, rfl⟩
  obtain ⟨L, hL⟩ : ∃ L, l0.length = L := ⟨_, rfl⟩
  have hK1 : K = r.length + 1 := by rw [← hK]; rfl
  have HKW : Hid (∀ w1, Owp (MayT Γ) w w1 → w1.cell? ⟨B, o + 2, none⟩ = some (.slice y0 L c0')) := Lib.hid fun w1 ho => by rw [← hL]; exact ho.cell (p := ⟨B, o + 2, none⟩) hokb.ok hy2
  have H0 := Lib.hid (SOk.start h hA)
  rw [hK] at H0 hA ⊢
  have HB := Lib.hid (Box4.new w (.int .i64 k) (.string ⟨n.toArray⟩) (.slice (some ⟨B, o, none⟩) K c) (.int .i64 p))
  have HROW := Lib.hid hk0
  have HROW1 := Lib.hid hrow1
  have HENV := Lib.hid hu
  have HW := Lib.hid hw
  have HIE := Lib.hid ihE
  have HIB := Lib.hid ihB
  have HL := Lib.hid hl
  have HN := Lib.hid hn
  have HA := Lib.hid hA
  have HMAY := Lib.hid h.may
  have HWT := Lib.hid hwt
  have HLL := Lib.hid hL
  have HKK := Lib.hid hK
  have HKR := Lib.hid (And.intro hK1 hr)
  have hLs : L < 2 ^ 40 := by
    have h1 := len_wtL l0
    have h2 : wtL (Nd.mk k0 n0 l0 p0 :: r) = wtN (Nd.mk k0 n0 l0 p0) + wtL r := rfl
    rw [wtN_mk] at h2
    omega
  have hkl : 0 < K := by omega
  clear hA hrow1 hu hw ihE ihB hl hn h hwt hL hK hk0 hK1 hr hokb hy2
  go_enter Tryz.func207, Tryz.ntmps207
  go_upto_region 1 with (fail)
  obtain ⟨a, ha⟩ : ∃ a, w.heap.size = a := ⟨_, rfl⟩
  rw [ha] at HB ⊢
  have HAA := Lib.hid ha
  clear ha
  generalize World.alloc w (.cells #[.int .i64 k, .string ⟨n.toArray⟩, .slice (some ⟨B, o, none⟩) K c, .int .i64 p] 53) = W at HA H0 HB ⊢
  have haw : ∀ w1, Owp (MayT Γ) W w1 → Box4 w1 a (.int .i64 k) (.string ⟨n.toArray⟩) (.slice (some ⟨B, o, none⟩) K c) (.int .i64 p) := fun w1 ho => (ho.block a HB.out.lt (fun hm => by have := HMAY.out a hm; have := HAA.out; omega)).trans HB.out
  have HAW := Lib.hid haw
  have HEX : Hid (callE ρ m n (Nd.mk k0 n0 l0 p0 :: r) p = [.call n] ++ cntE (mdlE ρ m n) n L K p) := Lib.hid (by
    rw [callE_eq, HKK.out, ← HLL.out]
    rfl)
  clear haw
  have hW0 : WSt Γ W m ev := by
    have := H0.out.2.1
    rwa [List.append_nil] at this
  have HW0 := Lib.hid hW0
  obtain ⟨-, -, -, -, -, -, c6, -⟩ := hW0.cells
  obtain ⟨cv, w2, hlook, hupd, hgrow, hcnt⟩ := CntMap.inc (w := W.drew) (b := Γ.cb) (l := calledE ev) (hW0.cal.keep rfl) (Nat.lt_of_le_of_lt (calledE_len ev) (by have := HL.out; omega)) n (by have := HN.out; unfold maxLen; omega)
  obtain ⟨x0, x1, x2, x3, xf⟩ := HB.out.facts
  have H2 : Hid (WSt Γ w2 m (ev ++ [.call n])) := Lib.hid (WSt.called (w := W.drew) (hW0.same fun _ _ => rfl) hgrow hcnt)
  have HO2 : Hid (Owp (MayT Γ) W w2) := by
    have h1 : Owp (MayT Γ) W W.drew := Owp.of_below (Below.refl _ _).drew
    exact h1.trans ⟨hgrow.os, hgrow.tape, hgrow.output, hgrow.size, fun j hj hn => hgrow.block j hj (fun e => by cases e; exact hn (.inr (.inr rfl)))⟩
  have HB2 := Lib.hid (HAW.out w2 HO2.out)
  clear hcnt hW0
  go_still_tail 8, (by kernel_rfl)
  change wpList _ _ _ _ _ (World.drew W)
  go_upto_region 2 with (fail)
  clear hlook hupd hgrow c6 x0 x1 x2 x3 xf
  obtain ⟨x0, x1, x2, x3, xf⟩ := HB2.out.facts
  obtain ⟨F', cap', hf, -, hc⟩ := env_any _ ρ _ w2 ((HENV.out.below HA.out).owp HO2.out)
  cases hf
  have c0 := hc 2 n false
  unfold TkEnd at c0
  obtain ⟨tx, htx⟩ : ∃ x, tkA ρ 2 n false = x := ⟨_, rfl⟩
  obtain ⟨ty, hty⟩ : ∃ x, tkB ρ 2 n false = x := ⟨_, rfl⟩
  obtain ⟨tz, htz⟩ : ∃ x, (findE ρ 2 n false).isSome = x := ⟨_, rfl⟩
  rw [htx, hty, htz] at c0
  have HTX := Lib.hid htx
  have HTY := Lib.hid hty
  have HTZ := Lib.hid htz
  clear hc htx hty htz
  go_wp2_with fail
  go_at_fn F
  refine c0.mono ?_
  clear c0 x0 x1 x2 x3 xf
  rintro e w3 ⟨rfl, hb3⟩
  have HW3 := Lib.hid (H2.out.below hb3)
  have HO3 := Lib.hid (HO2.out.below hb3)
  clear hb3 H2 HO2 HB2
  go_upto_if 26 with (fail)
  have hal : Below w3.heap.size w3 (w3.alloc (.cells #[.int .i64 tx, .bool ty] 171)) := (Below.refl _ _).alloc (Nat.le_refl _) _
  have HW4 := Lib.hid (HW3.out.below hal)
  have HO4 := Lib.hid (HO3.out.below hal)
  have HT4 := Lib.hid (Box2.new w3 (.int .i64 tx) (.bool ty))
  have hb8a : w.heap.size ≤ w3.heap.size ∧ W.heap.size ≤ w3.heap.size := ⟨Nat.le_trans HA.out.size HO3.out.size, HO3.out.size⟩
  obtain ⟨b8, hb8⟩ : ∃ b8, w3.heap.size = b8 := ⟨_, rfl⟩
  rw [hb8] at HT4 hb8a ⊢
  have HB8 := Lib.hid hb8a
  clear hal HW3 HO3 hb8 hb8a
  generalize World.alloc w3 (.cells #[.int .i64 tx, .bool ty] 171) = w4 at HW4 HO4 HT4 ⊢
  have HB4 := Lib.hid (HAW.out w4 HO4.out)
  go_cut [7] from 27 to 50 (fun v wx => v = .bool (mdlE ρ m n).isSome ∧ WSt Γ wx m (ev ++ [.call n]) ∧ Owp (MayT Γ) W wx ∧ ∀ a bl, mdlE ρ m n = some (a, bl) → wx.heap[b8]? = some (.cells #[.int .i64 (a : Nat), .bool bl] 171 (0, 0)))
  case first =>
    cases tz
    · have hfn : findE ρ 2 n false = none := by
        have := HTZ.out
        cases h : findE ρ 2 n false with
        | none => rfl
        | some a => rw [h] at this; cases this
      have HMD : Hid (mdlE ρ m n = if n = wChildren ∧ m = 0 then none else mdB n) := by
        show _ = _
        unfold mdlE
        rw [hfn]
        rfl
      clear hfn
      obtain ⟨-, -, c2, c3, -, -, -, -⟩ := HW4.out.cells
      obtain ⟨lx, lz, hlook, hlk⟩ := TkMap.look (w := w4.drew) (HW4.out.mds.keep rfl) n (by have := HN.out; unfold maxLen; omega)
      have HLK := Lib.hid hlk
      obtain ⟨x0, x1, x2, x3, xf⟩ := HB4.out.facts
      have t0 : w4.cell? ⟨b8, 0, none⟩ = some (.int .i64 tx) := by simp [World.cell?, HT4.out]
      have t1 : w4.cell? ⟨b8, 1, none⟩ = some (.bool ty) := by simp [World.cell?, HT4.out]
      have tf : ∀ o, w4.frozen? ⟨b8, o, none⟩ = false := fun o => by simp only [World.frozen?, HT4.out]; simp
      obtain ⟨fz, hfz⟩ : ∃ x, (mdB n).isSome = x := ⟨_, rfl⟩
      rw [hfz] at hlook
      have HFZ := Lib.hid hfz
      clear hlk hfz
      go_upto_region 4 with (fail)
      go_region
      go_upto_region 5 with (fail)
      clear hlook c2 c3 x0 x1 x2 x3 xf t0 t1 tf
      have hst : Ow b8 w4 (((World.setCell w4 ⟨b8, 0, none⟩ (.int .i64 lx)).setCell ⟨b8, 1, none⟩ (.bool lz)).drew) := ((((Ow.refl b8 w4).setCell (a := ⟨b8, 0, none⟩) (.inl rfl) _).setCell (a := ⟨b8, 1, none⟩) (.inl rfl) _)).drew
      have hkk : ∀ k, k ≠ b8 → (((World.setCell w4 ⟨b8, 0, none⟩ (.int .i64 lx)).setCell ⟨b8, 1, none⟩ (.bool lz)).drew).heap[k]? = w4.heap[k]? := fun k hk => (Below.heap_setCell _ _ _ _ hk).trans (Below.heap_setCell _ _ _ _ hk)
      have HW5 := Lib.hid (HW0.out.local HW4.out HB8.out.2 hkk)
      have HO5 := Lib.hid (HO4.out.fresh HB8.out.2 hst)
      have HT5 : Hid ((((World.setCell w4 ⟨b8, 0, none⟩ (.int .i64 lx)).setCell ⟨b8, 1, none⟩ (.bool lz)).drew).heap[b8]? = some (.cells #[.int .i64 lx, .bool lz] 171 (0, 0))) := by
        show ((World.setCell w4 ⟨b8, 0, none⟩ (.int .i64 lx)).setCell ⟨b8, 1, none⟩ (.bool lz)).heap[b8]? = _
        simp [World.setCell, Array.getElem?_modify, HT4.out]
      clear hst hkk HW4 HO4 HT4 HB4
      generalize World.drew ((World.setCell w4 ⟨b8, 0, none⟩ (.int .i64 lx)).setCell ⟨b8, 1, none⟩ (.bool lz)) = w5 at HW5 HO5 HT5 ⊢
      have HB5 := Lib.hid (HAW.out w5 HO5.out)
      have HREL : Hid (∀ b, b = (mdlE ρ m n).isSome → Value.bool b = .bool (mdlE ρ m n).isSome ∧ WSt Γ w5 m (ev ++ [.call n]) ∧ Owp (MayT Γ) W w5 ∧ ∀ a bl, mdlE ρ m n = some (a, bl) → w5.heap[b8]? = some (.cells #[.int .i64 (a : Nat), .bool bl] 171 (0, 0))) := by
        rintro b rfl
        refine ⟨rfl, HW5.out, HO5.out, fun a bl hab => ?_⟩
        rw [HMD.out] at hab
        split at hab
        · cases hab
        · obtain ⟨rfl, rfl⟩ := HLK.out a bl hab
          exact HT5.out
      have HCS : Hid (∀ b, ((n = wChildren ∧ m = 0) → b = false) → (¬ (n = wChildren ∧ m = 0) → b = fz) → b = (mdlE ρ m n).isSome) := by
        intro b h1 h2
        rw [HMD.out]
        split
        · exact h1 ‹_›
        · exact (h2 ‹_›).trans HFZ.out.symm
      obtain ⟨x0, x1, x2, x3, xf⟩ := HB5.out.facts
      obtain ⟨-, -, -, c3, -, -, -, -⟩ := HW5.out.cells
      cases fz
      · have HV := HCS.out false (fun _ => rfl) (fun _ => rfl)
        have HVV := Lib.hid HV
        clear HV
        go_wp2_with fail
        go_meet
        case rel => exact HREL.out _ HVV.out
      · by_cases hch : n = wChildren
        · by_cases hm : m = 0
          · have HVV := Lib.hid (HCS.out false (fun _ => rfl) (fun h => absurd ⟨hch, hm⟩ h))
            subst hm
            rw [hch] at x1
            unfold wChildren at x1
            clear hch
            go_wp2_with fail
            go_meet
            case rel => exact HREL.out _ HVV.out
          · have HVV := Lib.hid (HCS.out true (fun h => absurd h.2 hm) (fun _ => rfl))
            have hm1 : 0 < m := by omega
            have hm2 : (0 : Int) < (m : Int) := by omega
            rw [hch] at x1
            unfold wChildren at x1
            clear hch hm
            go_wp2_with fail
            go_meet
            case rel => exact HREL.out _ HVV.out
        · have HVV := Lib.hid (HCS.out true (fun h => absurd h.1 hch) (fun _ => rfl))
          have Q1 := str_ne hch
          unfold wChildren at Q1
          clear hch
          go_wp2_with fail
          go_meet
          case rel => exact HREL.out _ HVV.out
    · obtain ⟨tw, htw⟩ : ∃ t, findE ρ 2 n false = some t := by
        have := HTZ.out
        cases h : findE ρ 2 n false with
        | none => rw [h] at this; cases this
        | some a => exact ⟨a, rfl⟩
      have hmd : mdlE ρ m n = some (tw, true) := by
        unfold mdlE
        rw [htw]
        rfl
      have hta : tx = tw := by rw [← HTX.out, tkA, htw]; rfl
      have htb : ty = true := by rw [← HTY.out, tkB, htw]; rfl
      subst hta htb
      have HMD := Lib.hid hmd
      clear hmd htw
      go_wp2_with fail
      go_meet
      case rel =>
        rw [HMD.out]
        refine ⟨rfl, HW4.out, HO4.out, fun a bl hab => ?_⟩
        cases hab
        exact HT4.out
  case rest =>
    obtain ⟨rfl, hw5, ho5, ht5⟩ := hcut
    clear HW4 HO4 HT4 HB4 HTX HTY HTZ
    generalize mdlE ρ m n = RR at *
    have HW5 := Lib.hid hw5
    have HO5 := Lib.hid ho5
    have HT5 := Lib.hid ht5
    clear hw5 ho5 ht5
    generalize hRS : RR.isSome = RS at *
    have HRS := Lib.hid hRS
    clear hRS
    go_upto_if 52 with (fail)
    have HB5 := Lib.hid (HAW.out wc HO5.out)
    have hpre : SOk Γ w m ev [.call n] wc := ⟨.inr rfl, HW5.out, (Owp.of_below HA.out).trans HO5.out⟩
    have HPRE := Lib.hid hpre
    clear hpre
    go_cut [] from 53 to 81 (fun wx => SOk Γ w m ev ([.call n] ++ cntE RR n L K p) wx ∧ Box4 wx a (.int .i64 k) (.string ⟨n.toArray⟩) (.slice (some ⟨B, o, none⟩) K c) (.int .i64 p))
    case first =>
      clear HROW HROW1 HIE HIB HWT
      cases RR with
      | none =>
        obtain rfl : RS = false := HRS.out.symm
        have hlen : (ev ++ [Ev.call n]).length < 2 ^ 40 := by
          have := HL.out
          rw [HEX.out] at this
          simp [cntE] at this ⊢
          omega
        have cm := missing_any Γ HW.out m (ev ++ [.call n]) hlen k n HN.out (some ⟨B, o, none⟩) K c p wc HW5.out
        obtain ⟨x0, x1, x2, x3, xf⟩ := HB5.out.facts
        clear hlen
        go_wp2_with fail
        refine cm.mono ?_
        clear cm x0 x1 x2 x3 xf
        rintro e w6 (⟨rfl, hok⟩ | hbad)
        · have HOK := Lib.hid (HPRE.out.trans hok)
          have HO6 := Lib.hid (HO5.out.trans hok.2.2)
          clear hok
          go_wp2_with fail
          go_meet
          case rel => exact ⟨HOK.out, HAW.out w6 HO6.out⟩
        · have hb2 : SBad Γ w (callE ρ m n (Nd.mk k0 n0 l0 p0 :: r) p ++ (evEs ρ (bodyOf (Nd.mk k0 n0 l0 p0 :: r)) ++ evT (Nd.mk k0 n0 l0 p0 :: r) ρ m)) e w6 := by
            rw [HEX.out]
            exact SBad.left (SBad.right HPRE.out hbad) _
          obtain ⟨ch, rfl⟩ := hbad.pan
          exact ⟨rfl, .inr hb2⟩
      | some q =>
        obtain ⟨ta, tb⟩ := q
        obtain rfl : RS = true := HRS.out.symm
        obtain ⟨E, hE⟩ : ∃ E, ((L : Int) != (ta : Int)) = E := ⟨_, rfl⟩
        have HED : Hid (E = !decide (L = ta)) := Lib.hid (by
          rw [← hE]
          by_cases h : L = ta
          · subst h; simp
          · simp [h, bne]
            omega)
        go_upto_region 8 with (fail)
        obtain ⟨x0, x1, x2, x3, xf⟩ := HB5.out.facts
        have hT := HT5.out ta tb rfl
        have t0 : wc.cell? ⟨b8, 0, none⟩ = some (.int .i64 (ta : Nat)) := by simp [World.cell?, hT]
        have t1 : wc.cell? ⟨b8, 1, none⟩ = some (.bool tb) := by simp [World.cell?, hT]
        have y2 := HKW.out wc HPRE.out.2.2
        clear hT
        go_cut [75] from 56 to 75 (fun v wx => v = .bool (decide (L ≠ ta ∨ (1 < K ∧ tb = false))) ∧ ∃ nq, wx = wc.drewN nq)
        case first =>
          cases E
          · have hLa : L = ta := by have := HED.out; simpa using this
            have HLA := Lib.hid hLa
            clear hLa
            by_cases hK1 : 1 < K
            · have HK1 := Lib.hid hK1
              have d1 : decide ((1 : Int) < (K : Int)) = true := by simp; omega
              have d2 : (1 : Int) < (K : Int) := by omega
              cases tb
              · go_quiet (fail)
                go_wp2_with fail
                go_meet
                case rel =>
                  have h1 := HLA.out
                  have h2 := HK1.out
                  exact ⟨by simp [h1, h2], _, rfl⟩
              · go_quiet (fail)
                go_wp2_with fail
                go_meet
                case rel =>
                  have h1 := HLA.out
                  exact ⟨by simp [h1], _, rfl⟩
            · have HK1 := Lib.hid hK1
              have d1 : decide ((1 : Int) < (K : Int)) = false := by simp; omega
              have d2 : ¬ (1 : Int) < (K : Int) := by omega
              go_quiet (fail)
              go_wp2_with fail
              go_meet
              case rel =>
                have h1 := HLA.out
                have h2 := HK1.out
                exact ⟨by simp [h1, h2], _, rfl⟩
          · have hLa : ¬ L = ta := by have := HED.out; simpa using this
            have HLA := Lib.hid hLa
            clear hLa
            go_quiet (fail)
            go_wp2_with fail
            go_meet
            case rel =>
              have h1 := HLA.out
              exact ⟨by simp [h1], _, rfl⟩
        case rest =>
          obtain ⟨rfl, nq, rfl⟩ := hcut
          have HW7 : Hid (WSt Γ (wc.drewN nq) m (ev ++ [.call n])) := Lib.hid (HW5.out.same fun _ _ => rfl)
          have HO7 : Hid (Owp (MayT Γ) W (wc.drewN nq)) := Lib.hid (HO5.out.below (bdn (Below.refl _ _) _))
          have HB7 : Hid (Box4 (wc.drewN nq) a (.int .i64 k) (.string ⟨n.toArray⟩) (.slice (some ⟨B, o, none⟩) K c) (.int .i64 p)) := Lib.hid HB5.out
          clear x0 x1 x2 x3 xf t0 t1 y2 hE HW5 HO5 HB5 HT5 HPRE HED
          generalize World.drewN wc nq = w7 at HW7 HO7 HB7 ⊢
          obtain ⟨T, hT⟩ : ∃ T, decide (L ≠ ta ∨ (1 < K ∧ tb = false)) = T := ⟨_, rfl⟩
          rw [hT]
          have HXE : Hid (cntE (some (ta, tb)) n L K p = if T then [.bad 281 n p] else []) := Lib.hid (by
            show (if L ≠ ta ∨ (1 < K ∧ tb = false) then [Ev.bad 281 n p] else []) = _
            rw [← hT]
            by_cases h : L ≠ ta ∨ (1 < K ∧ tb = false)
            · rw [if_pos h, if_pos (decide_eq_true h)]
            · rw [if_neg h, if_neg (by rw [decide_eq_false h]; exact Bool.false_ne_true)])
          clear hT
          obtain ⟨x0, x1, x2, x3, xf⟩ := HB7.out.facts
          cases T
          · have HXF : Hid (cntE (some (ta, tb)) n L K p = []) := HXE.out
            go_wp2_with fail
            go_meet
            case rel =>
              rw [HXF.out]
              exact ⟨⟨.inr rfl, HW7.out, (Owp.of_below HA.out).trans HO7.out⟩, HB7.out⟩
          · have HXF : Hid (cntE (some (ta, tb)) n L K p = [.bad 281 n p]) := HXE.out
            obtain ⟨-, -, -, -, c4, -, -, -⟩ := HW7.out.cells
            have hw2 := HW.out.2 k n (some ⟨B, o, none⟩) K c p 281 w7.drew
            have egw := HW.out.1
            go_upto_region 9 with (fail)
            go_still_tail 5, (by kernel_rfl)
            change wpList _ _ _ _ _ (World.drew w7)
            have HW8 : Hid (WSt Γ w7.drew m (ev ++ [.call n])) := Lib.hid (HW7.out.same fun _ _ => rfl)
            have HO8 : Hid (Owp (MayT Γ) W w7.drew) := Lib.hid (HO7.out.below (Below.refl _ _).drew)
            clear HW7 HO7 HB7
            generalize World.drew w7 = w8 at *
            go_wp2_with fail
            go_at_fn Γ.wf
            refine hw2.mono ?_
            clear hw2 x0 x1 x2 x3 xf c4
            rintro e w9 (⟨ha, rfl, hb⟩ | ⟨ha, hb, b, hbl, rfl, hf⟩)
            · have HO9 := Lib.hid (HO8.out.below hb)
              have HOK : Hid (SOk Γ w m ev ([.call n] ++ cntE (some (ta, tb)) n L K p) w9) := by
                show SOk _ _ _ _ _ _
                rw [HXF.out]
                refine ⟨.inl ha, ?_, (Owp.of_below HA.out).trans HO9.out⟩
                rw [← List.append_assoc]
                exact (HW8.out.below hb).badly _ _ _
              clear ha hb
              go_wp2_with fail
              go_meet
              case rel => exact ⟨HOK.out, HAW.out w9 HO9.out⟩
            · have HO9 := Lib.hid (HO8.out.below hb)
              refine ⟨rfl, .inr ?_⟩
              rw [HEX.out, HXF.out]
              refine SBad.left ⟨ha, 281, n, p, b, rfl, ?_, rfl, hf, (Owp.of_below HA.out).trans HO9.out⟩ _
              have := (Owp.of_below (P := MayT Γ) HA.out).trans HO8.out
              have := this.size
              omega
    case rest =>
      obtain ⟨hok, hbx⟩ := hcut
      obtain ⟨x0, x1, x2, x3, xf⟩ := hbx.facts
      rw [← HEX.out] at hok
      have HOK := Lib.hid hok
      have HOK0 := HOK
      have HBX := Lib.hid hbx
      have y2 := HKW.out _ hok.2.2
      clear hok hbx HB H0 HW5 HO5 HT5 HB5 HPRE HRS
      go_wp2_with fail
      go_loopg [88] L (fun g v wx => ∃ i : Nat, v = .int .i64 i ∧ i + g = L ∧ SOk Γ w m ev (callE ρ m n (Nd.mk k0 n0 l0 p0 :: r) p ++ evEs ρ (l0.take i)) wx ∧ Box4 wx a (.int .i64 k) (.string ⟨n.toArray⟩) (.slice (some ⟨B, o, none⟩) K c) (.int .i64 p))
      case atStart => exact ⟨0, rfl, by omega, by simpa [evEs] using HOK.out, HBX.out⟩
      case round =>
        clear HOK x0 x1 x2 x3 xf y2
        obtain ⟨i, rfl, hi, hok, hbb⟩ := hrel
        have HOK := Lib.hid hok
        have HB9 := Lib.hid hbb
        clear hok hbb HBX
        by_cases hlt : i < L
        · obtain ⟨x, hx⟩ : ∃ x, l0[i]? = some x := ⟨l0[i]'(by have := HLL.out; omega), List.getElem?_eq_getElem _⟩
          have hmem := List.mem_of_getElem? hx
          obtain ⟨B1, o1, rfl, hat⟩ := (NdRow.mono (fun _ h _ => h) (fun b hb hl => HOK.out.2.2.block b hl hb) _ _ HROW.out : NdRow wr (fun b => ¬ MayT Γ b) l0 y0).at_ hx
          have hevs : evEs ρ (l0.take (i + 1)) = evEs ρ (l0.take i) ++ evE ρ x := by rw [List.take_add_one, hx]; exact evEs_snoc ρ _ x
          have hcat : callE ρ m n (Nd.mk k0 n0 l0 p0 :: r) p ++ (evEs ρ l0 ++ evT (Nd.mk k0 n0 l0 p0 :: r) ρ m) = (callE ρ m n (Nd.mk k0 n0 l0 p0 :: r) p ++ evEs ρ (l0.take i)) ++ (evE ρ x ++ (evEs ρ (l0.drop (i + 1)) ++ evT (Nd.mk k0 n0 l0 p0 :: r) ρ m)) := by
            have h1 : l0 = l0.take (i + 1) ++ l0.drop (i + 1) := (List.take_append_drop _ _).symm
            have h2 : evEs ρ l0 = evEs ρ (l0.take (i + 1)) ++ evEs ρ (l0.drop (i + 1)) := by
              conv => lhs; rw [h1]
              exact evEs_app ρ _ _
            rw [h2, hevs]
            simp only [List.append_assoc]
          obtain ⟨k1, n1, l1, p1⟩ := x
          obtain ⟨-, z0, z1, z3, y1, c1, z2, hk1⟩ := hat
          have HX := Lib.hid (HIE.out _ hmem)
          have HEV := Lib.hid hevs
          have HCAT := Lib.hid hcat
          have HK1 := Lib.hid hk1
          have hlt' : (i : Int) < (L : Int) := by omega
          have Qi1 : IntKind.i64.wrap ((i : Int) + 1) = (i : Int) + 1 := IntWalk.i64_in _ (by omega)
          clear hx hmem hevs hcat hk1
          go_upto_region 13 with (fail)
          have hal : Below wr.heap.size wr (wr.alloc (.cells #[.int .i64 k1, .string ⟨n1.toArray⟩, .slice y1 l1.length c1, .int .i64 p1] 53)) := (Below.refl _ _).alloc (Nat.le_refl _) _
          have HO1 : Hid (Owp (MayT Γ) w (wr.alloc (.cells #[.int .i64 k1, .string ⟨n1.toArray⟩, .slice y1 l1.length c1, .int .i64 p1] 53))) := Lib.hid (HOK.out.2.2.below hal)
          have HW1 := Lib.hid (HOK.out.2.1.below hal)
          have HK2 := Lib.hid (HK1.out.below hal)
          have HBY := Lib.hid (Box4.new wr (.int .i64 k1) (.string ⟨n1.toArray⟩) (.slice y1 l1.length c1) (.int .i64 p1))
          have HC1 := Lib.hid HOK.out.1
          have HBA := Lib.hid ((hal.block a HB9.out.lt).trans HB9.out)
          clear z0 z1 z2 z3 HOK HK1 hal HB9
          obtain ⟨bx, hbx⟩ : ∃ bx, wr.heap.size = bx := ⟨_, rfl⟩
          rw [hbx] at HBY ⊢
          clear hbx
          generalize World.alloc wr (.cells #[.int .i64 k1, .string ⟨n1.toArray⟩, .slice y1 l1.length c1, .int .i64 p1] 53) = w1 at HO1 HW1 HK2 HBY HBA ⊢
          obtain ⟨x0, x1, x2, x3, xf⟩ := HBY.out.facts
          have hpre : SOk Γ w m ev (callE ρ m n (Nd.mk k0 n0 l0 p0 :: r) p ++ evEs ρ (l0.take i)) w1 := ⟨HC1.out, HW1.out, HO1.out⟩
          have HPRE := Lib.hid hpre
          have cx := HX.out w1 m _ ρ (.agg #[.int .i64 k1, .string ⟨n1.toArray⟩, .slice y1 l1.length c1, .int .i64 p1]) _ ⟨y1, c1, rfl, HK2.out⟩ (HENV.out.owp HO1.out) HW1.out (by
            have := HL.out
            rw [show bodyOf (Nd.mk k0 n0 l0 p0 :: r) = l0 from rfl, HCAT.out] at this
            simp only [List.length_append] at this ⊢
            omega)
          clear hpre
          go_wp2_with fail
          refine cx.mono ?_
          clear cx x0 x1 x2 x3 xf
          rintro e w2 (⟨rfl, hok⟩ | hbad)
          · have HOK : Hid (SOk Γ w m ev (callE ρ m n (Nd.mk k0 n0 l0 p0 :: r) p ++ evEs ρ (l0.take (i + 1))) w2) := by
              show SOk _ _ _ _ _ _
              rw [HEV.out, ← List.append_assoc]
              exact HPRE.out.trans hok
            have HB3 : Hid (Box4 w2 a (.int .i64 k) (.string ⟨n.toArray⟩) (.slice (some ⟨B, o, none⟩) K c) (.int .i64 p)) := Lib.hid (hok.2.2.keep (fun hm => by have := HMAY.out a hm; have := HAA.out; omega) HBA.out)
            clear hok
            go_wp2_with fail
            go_roundg (gk - 1)
            case measure => omega
            case rel => exact ⟨i + 1, rfl, by omega, HOK.out, HB3.out⟩
          · have hb2 : SBad Γ w (callE ρ m n (Nd.mk k0 n0 l0 p0 :: r) p ++ (evEs ρ (bodyOf (Nd.mk k0 n0 l0 p0 :: r)) ++ evT (Nd.mk k0 n0 l0 p0 :: r) ρ m)) e w2 := by
              rw [show bodyOf (Nd.mk k0 n0 l0 p0 :: r) = l0 from rfl, HCAT.out]
              exact SBad.right HPRE.out (SBad.left hbad _)
            obtain ⟨ch, rfl⟩ := hbad.pan
            exact ⟨rfl, .inr hb2⟩
        · have hlt' : ¬ (i : Int) < (L : Int) := by omega
          have hfin : SOk Γ w m ev (callE ρ m n (Nd.mk k0 n0 l0 p0 :: r) p ++ evEs ρ l0) wr := by
            have := HOK.out
            rwa [List.take_of_length_le (by have := HLL.out; omega)] at this
          have HE := Lib.hid hfin
          obtain ⟨x0, x1, x2, x3, xf⟩ := HB9.out.facts
          clear HOK hfin
          cases r with
          | nil =>
            obtain rfl : K = 1 := HKR.out.1
            have HEE : Hid (SOk Γ w m ev (callE ρ m n [Nd.mk k0 n0 l0 p0] p ++ (evEs ρ (bodyOf [Nd.mk k0 n0 l0 p0]) ++ evT [Nd.mk k0 n0 l0 p0] ρ m)) wr) := by
              show SOk _ _ _ _ (_ ++ (evEs ρ l0 ++ [])) _
              rw [List.append_nil]
              exact HE.out
            go_wp2_with fail
            go_end0
            exact .inl ⟨rfl, HEE.out⟩
          | cons X1 r' =>
            obtain rfl : r' = [] := by
              have := HKR.out.2
              simp at this
              exact this
            obtain rfl : K = 2 := HKR.out.1
            obtain ⟨k2, n2, l2, p2⟩ := X1
            obtain ⟨B2, o2, hbo, hat2, -⟩ := HROW1.out
            cases hbo
            obtain ⟨hok2, -, -, -, y3, c3', hy3, hk3⟩ := hat2
            have hx2 := HE.out.2.2.cell (p := ⟨B, o + 4 + 2, none⟩) hok2.ok hy3
            have hk4 : NdRow wr (fun b => ¬ MayT Γ b) l2 y3 := NdRow.mono (fun _ h _ => h) (fun b hb hl => HE.out.2.2.block b hl hb) _ _ hk3
            have cb := HIB.out _ (List.mem_singleton_self _) wr m _ ρ y3 c3' _ hk4 (HENV.out.owp HE.out.2.2) HE.out.2.1 (by
              have h1 := HWT.out
              have h2 : wtL [Nd.mk k0 n0 l0 p0, Nd.mk k2 n2 l2 p2] = wtN (Nd.mk k0 n0 l0 p0) + (wtN (Nd.mk k2 n2 l2 p2) + 0) := rfl
              rw [wtN_mk k2] at h2
              show m + wtL l2 < _
              omega) (by
              have h1 := HL.out
              have h2 : evT [Nd.mk k0 n0 l0 p0, Nd.mk k2 n2 l2 p2] ρ m = evSs l2 (none :: ρ) m ++ [] := rfl
              rw [h2, show bodyOf [Nd.mk k0 n0 l0 p0, Nd.mk k2 n2 l2 p2] = l0 from rfl] at h1
              simp only [List.length_append, List.length_nil] at h1 ⊢
              show _ + (evSs l2 (none :: ρ) m).length < _
              omega)
            rw [show (Nd.mk k2 n2 l2 p2).kids = l2 from rfl] at cb
            clear hok2 hy3 hk3 hk4
            go_wp2_with fail
            refine cb.mono ?_
            clear cb
            have hev : callE ρ m n [Nd.mk k0 n0 l0 p0, Nd.mk k2 n2 l2 p2] p ++ (evEs ρ (bodyOf [Nd.mk k0 n0 l0 p0, Nd.mk k2 n2 l2 p2]) ++ evT [Nd.mk k0 n0 l0 p0, Nd.mk k2 n2 l2 p2] ρ m) = (callE ρ m n [Nd.mk k0 n0 l0 p0, Nd.mk k2 n2 l2 p2] p ++ evEs ρ l0) ++ evSs l2 (none :: ρ) m := by
              show _ ++ (evEs ρ l0 ++ (evSs l2 (none :: ρ) m ++ [])) = _
              rw [List.append_nil, List.append_assoc]
            have HEVV := Lib.hid hev
            clear hev
            rintro e w2 (⟨rfl, hok⟩ | hbad)
            · have HOK := Lib.hid (HE.out.trans hok)
              clear hok
              go_wp2_with fail
              go_end0
              refine .inl ⟨rfl, ?_⟩
              rw [HEVV.out]
              exact HOK.out
            · have hb2 : SBad Γ w (callE ρ m n [Nd.mk k0 n0 l0 p0, Nd.mk k2 n2 l2 p2] p ++ (evEs ρ (bodyOf [Nd.mk k0 n0 l0 p0, Nd.mk k2 n2 l2 p2]) ++ evT [Nd.mk k0 n0 l0 p0, Nd.mk k2 n2 l2 p2] ρ m)) e w2 := by
                rw [HEVV.out]
                exact SBad.right HE.out hbad
              obtain ⟨ch, rfl⟩ := hbad.pan
              exact ⟨rfl, .inr hb2⟩
end Go.Proofs.YtpbkeamjdolpgaaGreatDoor
namespace Go.Proofs.YtpbkeamjdolpgaaGreatDoor
open Go.RowKit Go.Lib
open Go.Maps (Keyed)

theorem WSt.setIn {Γ : SCtx} {w : World} {m : Nat} {ev : List Ev} (h : WSt Γ w m ev) (m' : Nat) : WSt Γ (w.setCell ⟨Γ.wb, 3, none⟩ (.int .i64 m')) m' ev := by
  have g : ∀ k, k ≠ Γ.wb → (w.setCell ⟨Γ.wb, 3, none⟩ (.int .i64 m')).heap[k]? = w.heap[k]? := fun k hk => Below.heap_setCell _ _ _ _ hk
  refine ⟨?_, h.fns.keep (g _ fun e => h.n4 (.inl e)), h.mds.keep (g _ fun e => h.n5 (.inl e)), h.fre.keep (g _ (Ne.symm h.n1)), h.cal.keep (g _ (Ne.symm h.n2)), h.n1, h.n2, h.n3, h.n4, h.n5⟩
  simp [World.setCell, Array.getElem?_modify, h.blk]
theorem Owp.setIn {Γ : SCtx} (w : World) (v : Value) : Owp (MayT Γ) w (w.setCell ⟨Γ.wb, 3, none⟩ v) := by
  have h := (Ow.refl Γ.wb w).setCell (a := ⟨Γ.wb, 3, none⟩) (.inl rfl) v
  exact ⟨h.os, h.tape, h.output, h.size, fun k hk hn => h.block k hk (fun e => hn (.inl e))⟩
theorem TkMap.lookAll {w : World} {b : Nat} {f : List UInt8 → Option (Nat × Bool)} (h : TkMap w b f) (s : List UInt8) (hs : s.length ≤ maxLen) :
    ∃ (x : Int) (z : Bool), ∀ w' : World, w'.heap[b]? = w.heap[b]? → (Instr.lookup 117 (.map (some b)) (.string ⟨s.toArray⟩) true).run Tryz.prog w' = .ok (.tuple #[.agg #[.int .i64 x, .bool z], .bool (f s).isSome]) w' := by
  obtain ⟨n, D, hn, ho, hD⟩ := h
  obtain ⟨v, ps, h1, h2⟩ := ho.look_ok Tryz.kStr Tryz.underlying117 (Tryz.zeroTakes w) (tkElem_mk 0 false) (key_str s hs)
  obtain ⟨x, z, rfl, h3⟩ := tkElem_inv h2
  refine ⟨x, z, fun w' hw => ?_⟩
  have ho' : w'.ownsMap Tryz.prog 9 tkElem b n D := by
    obtain ⟨es, clock, hb, F, hs, hD⟩ := ho
    exact ⟨es, clock, hw.trans hb, F, hs, hD⟩
  obtain ⟨v', ps', h1', h2'⟩ := ho'.look_ok Tryz.kStr Tryz.underlying117 (Tryz.zeroTakes w') (tkElem_mk 0 false) (key_str s hs)
  obtain ⟨x', z', rfl, h3'⟩ := tkElem_inv h2'
  have e : (DataW.agg [.lit (.int .i64 x'), .lit (.bool z')] : DataW Unit) = .agg [.lit (.int .i64 x), .lit (.bool z)] := by
    have a1 := congrArg Prod.fst h3
    have a2 := congrArg Prod.fst h3'
    exact a2.symm.trans a1
  simp at e
  obtain ⟨rfl, rfl⟩ := e
  rw [h1', (hD.2 s).1]
theorem parE_app : ∀ (a b : List Nd) (ρ : Env), parE ρ (a ++ b) = parE ρ a ++ parE (parV ρ a) b
  | [], _, _ => rfl
  | .mk k n l p :: r, b, ρ => by
    rw [List.cons_append, parE, parE, parE_app r b, List.append_assoc]
    rfl
theorem parV_app : ∀ (a b : List Nd) (ρ : Env), parV ρ (a ++ b) = parV (parV ρ a) b
  | [], _, _ => rfl
  | .mk k n l p :: r, b, ρ => by
    rw [List.cons_append, parV, parV, parV_app r b]
def BodyOk (Γ : SCtx) (K : Nat) (evs : Env → Nat → List Ev) (k : Int) (n : List UInt8) (kids : List Nd) (p : Int) : Prop := ∀ (w : World) (m : Nat) (ev : List Ev) (ρ : Env) (v u : Value), NdVal w (fun b => ¬ MayT Γ b) (.mk k n kids p) v → EnvAt w (MayT Γ) ρ u → WSt Γ w m ev → m + wtN (.mk k n kids p) < 2 ^ 40 →
  ev.length + (evs ρ m).length < 2 ^ 40 →
  Calls Tryz.prog 206 #[.pointer (some ⟨Γ.wb, 0, none⟩), v, .int .i64 K, u] w (SEndE Γ w m ev (evs ρ m) (some (K, n, argc kids) :: ρ))
set_option maxHeartbeats 4000000 in
set_option maxRecDepth 100000 in
theorem body1_step (Γ : SCtx) (hw : WrongOk Γ) (k : Int) (n : List UInt8) (k0 : Int) (n0 : List UInt8) (l0 : List Nd) (p0 : Int) (x1 : Nd) (p : Int) (hX : ExprOk Γ x1) :
    BodyOk Γ 1 (fun ρ _ => defE ρ 1 n p ++ (parE (none :: some (1, n, l0.length) :: ρ) l0 ++ evEs (parV (none :: some (1, n, l0.length) :: ρ) l0) [x1])) k n [.mk k0 n0 l0 p0, x1] p := by
  intro w m ev ρ v u hv hu h hwt hl
  dsimp only at hl ⊢
  obtain ⟨y, cv, rfl, hrow⟩ := hv
  generalize cv.val = c
  clear cv
  obtain ⟨B, o, rfl, hat, hrow1⟩ := hrow
  obtain ⟨hokb, -, -, -, y0, cv0, hy2, hk0⟩ := hat
  generalize cv0.val = c0' at hy2
  clear cv0
  obtain ⟨B', o', hBo, hat1, -⟩ := hrow1
  cases hBo
  have hA : Below w.heap.size w (w.alloc (.cells #[.int .i64 k, .string ⟨n.toArray⟩, .slice (some ⟨B, o, none⟩) 2 c, .int .i64 p] 53)) := (Below.refl _ _).alloc (Nat.le_refl _) _
  obtain ⟨F, cap, rfl, eg, -⟩ := env_any _ ρ u w hu
  obtain ⟨L, hL⟩ : ∃ L, l0.length = L := ⟨_, rfl⟩
  have HKW : Hid (∀ w1, Owp (MayT Γ) w w1 → w1.cell? ⟨B, o + 2, none⟩ = some (.slice y0 L c0')) := Lib.hid fun w1 ho => by rw [← hL]; exact ho.cell (p := ⟨B, o + 2, none⟩) hokb.ok hy2
  have H0 := Lib.hid (SOk.start h hA)
  have HB := Lib.hid (Box4.new w (.int .i64 k) (.string ⟨n.toArray⟩) (.slice (some ⟨B, o, none⟩) 2 c) (.int .i64 p))
  have HROW := Lib.hid hk0
  have HAT1 := Lib.hid hat1
  have HENV := Lib.hid hu
  have HW := Lib.hid hw
  have HX := Lib.hid hX
  have HL := Lib.hid hl
  have HA := Lib.hid hA
  have HMAY := Lib.hid h.may
  have HWT := Lib.hid hwt
  have HLL := Lib.hid hL
  have hwt2 : wtN (.mk k n [.mk k0 n0 l0 p0, x1] p) = (wtL l0 + n0.length + 1 + (wtN x1 + 0)) + n.length + 1 := by
    rw [wtN_mk]
    show (wtN (.mk k0 n0 l0 p0) + (wtN x1 + 0)) + _ + _ = _
    rw [wtN_mk]
  have HWT2 := Lib.hid hwt2
  have hLs : L < 2 ^ 40 := by
    have h1 := len_wtL l0
    omega
  have HN : Hid (n.length < 2 ^ 40) := Lib.hid (by omega)
  clear hA hu hw hX hl hwt hk0 hokb hy2 hwt2 hat1
  have hc := (env_any _ ρ _ _ (HENV.out.below HA.out))
  obtain ⟨F', cap', hf, -, hc⟩ := hc
  cases hf
  have c0 := hc 1 n true
  unfold TkEnd at c0
  obtain ⟨tx, htx⟩ : ∃ x, tkA ρ 1 n true = x := ⟨_, rfl⟩
  obtain ⟨ty, hty⟩ : ∃ x, tkB ρ 1 n true = x := ⟨_, rfl⟩
  obtain ⟨tz, htz⟩ : ∃ x, (findE ρ 1 n true).isSome = x := ⟨_, rfl⟩
  rw [htx, hty, htz] at c0
  have HTZ := Lib.hid htz
  clear hc htx hty htz h hL
  obtain ⟨fz, hfz⟩ : ∃ x, ((fnB n).map fun x => (x, false)).isSome = x := ⟨_, rfl⟩
  have HFZ := Lib.hid hfz
  obtain ⟨P0, hP0⟩ : ∃ P : List Ev, [] = P := ⟨_, rfl⟩
  obtain ⟨DE, hDE⟩ : ∃ D, defE ρ 1 n p = D := ⟨_, rfl⟩
  have HDE : Hid (DE = if fz || tz then [.bad 280 n p] else []) := Lib.hid (by
    rw [← hDE, ← HFZ.out, ← HTZ.out]
    unfold defE
    simp)
  rw [hDE] at HL ⊢
  obtain ⟨REST, hREST⟩ : ∃ D, parE (none :: some (1, n, l0.length) :: ρ) l0 ++ evEs (parV (none :: some (1, n, l0.length) :: ρ) l0) [x1] = D := ⟨_, rfl⟩
  have HREST := Lib.hid hREST
  rw [hREST] at HL ⊢
  have HTOT : Hid (DE ++ REST = (P0 ++ DE) ++ REST) := Lib.hid (by rw [← hP0]; rfl)
  have HP0 := Lib.hid hP0
  clear hP0 hDE hREST hfz
  go_enter Tryz.func206, Tryz.ntmps206
  go_upto_region 1 with (fail)
  obtain ⟨a, ha⟩ : ∃ a, w.heap.size = a := ⟨_, rfl⟩
  rw [ha] at HB ⊢
  have HAA := Lib.hid ha
  clear ha
  generalize World.alloc w (.cells #[.int .i64 k, .string ⟨n.toArray⟩, .slice (some ⟨B, o, none⟩) 2 c, .int .i64 p] 53) = W at HA H0 HB c0 ⊢
  have haw : ∀ w1, Owp (MayT Γ) W w1 → Box4 w1 a (.int .i64 k) (.string ⟨n.toArray⟩) (.slice (some ⟨B, o, none⟩) 2 c) (.int .i64 p) := fun w1 ho => (ho.block a HB.out.lt (fun hm => by have := HMAY.out a hm; have := HAA.out; omega)).trans HB.out
  have HAW := Lib.hid haw
  clear haw
  have hW0 : WSt Γ W m ev := by
    have := H0.out.2.1
    rwa [List.append_nil] at this
  have HW0 := Lib.hid hW0
  obtain ⟨x0, x1', x2, x3, xf⟩ := HB.out.facts
  clear hW0
  go_wp2_with fail
  go_at_fn F
  refine c0.mono ?_
  clear c0 x0 x1' x2 x3 xf
  rintro e w1 ⟨rfl, hb1⟩
  go_upto_region 2 with (fail)
  have hal : Below w1.heap.size w1 (w1.alloc (.cells #[.int .i64 tx, .bool ty] 171)) := (Below.refl _ _).alloc (Nat.le_refl _) _
  have HW2 := Lib.hid ((HW0.out.below hb1).below hal)
  have HO2 : Hid (Owp (MayT Γ) W _) := Lib.hid ((Owp.of_below hb1).below hal)
  clear hal hb1
  generalize World.alloc w1 (.cells #[.int .i64 tx, .bool ty] 171) = w2 at HW2 HO2 ⊢
  have HB2 := Lib.hid (HAW.out w2 HO2.out)
  obtain ⟨b9, hb9⟩ : ∃ b9, w2.heap.size = b9 := ⟨_, rfl⟩
  have hz : Below w2.heap.size w2 (w2.alloc (.cells #[.int .i64 0, .bool false] 171)) := (Below.refl _ _).alloc (Nat.le_refl _) _
  have HWZ := Lib.hid (HW2.out.below hz)
  have HOZ := Lib.hid (HO2.out.below hz)
  have HTZ2 := Lib.hid (Box2.new w2 (.int .i64 0) (.bool false))
  have hb9a : W.heap.size ≤ b9 := by
    have := HO2.out.size
    omega
  have HB9 := Lib.hid hb9a
  rw [hb9] at HTZ2
  have HB2Z := Lib.hid (HAW.out _ HOZ.out)
  obtain ⟨x0, x1', x2, x3, xf⟩ := HB2Z.out.facts
  obtain ⟨-, c1, c2, -, -, -, -, -⟩ := HWZ.out.cells
  obtain ⟨x0b, x1b, x2b, x3b, xfb⟩ := HB2.out.facts
  obtain ⟨-, c1b, c2b, -, -, -, -, -⟩ := HW2.out.cells
  have t0 : (w2.alloc (.cells #[.int .i64 0, .bool false] 171)).cell? ⟨b9, 0, none⟩ = some (.int .i64 0) := by simp [World.cell?, HTZ2.out]
  have t1 : (w2.alloc (.cells #[.int .i64 0, .bool false] 171)).cell? ⟨b9, 1, none⟩ = some (.bool false) := by simp [World.cell?, HTZ2.out]
  have tf : ∀ o, (w2.alloc (.cells #[.int .i64 0, .bool false] 171)).frozen? ⟨b9, o, none⟩ = false := fun o => by simp only [World.frozen?, HTZ2.out]; simp
  obtain ⟨lx, lz, hlooks⟩ := TkMap.lookAll (HW2.out.fns) n (by have := HN.out; unfold maxLen; omega)
  have hlook := hlooks w2.drew rfl
  have hlook2 := hlooks (w2.alloc (.cells #[.int .i64 0, .bool false] 171)).drew (hz.block _ HW2.out.fns.lt)
  rw [HFZ.out] at hlook hlook2
  clear hz hb9a hlooks
  go_cut [11, 12] from 26 to 37 (fun _ v wx => v = .bool fz ∧ Below w2.heap.size w2 wx)
  case first =>
    go_region
    all_goals go_wp2_with fail
    all_goals go_meet
    all_goals refine ⟨rfl, ?_⟩
    all_goals (first | exact ((Below.refl _ _).alloc (Nat.le_refl _) _).drew | exact ((Below.refl _ _).drew).alloc (Nat.le_refl _) _)
  case rest =>
  obtain ⟨rfl, hb3⟩ := hcut
  have HW3 := Lib.hid (HW2.out.below hb3)
  have HO3 := Lib.hid (HO2.out.below hb3)
  clear hlook hlook2 c1 c2 c1b c2b x0 x1' x2 x3 xf x0b x1b x2b x3b xfb t0 t1 tf hb3 HW2 HO2 HWZ HOZ HTZ2 HB2Z HB2
  obtain ⟨w3, hw3⟩ : ∃ w3, wc = w3 := ⟨_, rfl⟩
  rw [hw3] at HW3 HO3 ⊢
  clear hw3
  go_upto_region 3 with (fail)
  have HB3 := Lib.hid (HAW.out w3 HO3.out)
  have HS3 : Hid (SOk Γ w m ev P0 w3) := Lib.hid ⟨.inr (by rw [← HP0.out]; rfl), by rw [← HP0.out]; exact HW3.out.nil, (Owp.of_below HA.out).trans HO3.out⟩
  go_cut [41] from 38 to 41 (fun v wx => v = .bool (fz || tz) ∧ SOk Γ w m ev P0 wx ∧ Owp (MayT Γ) w3 wx)
  case first =>
    cases fz
    · cases tz
      · go_wp2_with fail
        go_meet
        case rel => exact ⟨rfl, HS3.out, Owp.refl _ _⟩
      · go_wp2_with fail
        go_meet
        case rel => exact ⟨rfl, HS3.out, Owp.refl _ _⟩
    · go_wp2_with fail
      go_meet
      case rel => exact ⟨rfl, HS3.out, Owp.refl _ _⟩
  case rest =>
    obtain ⟨rfl, hs4, ho4⟩ := hcut
    have HS4 := Lib.hid hs4
    have HO4 := Lib.hid (HO3.out.trans ho4)
    clear hs4 ho4 HS3 HO3 HW3 HB3
    obtain ⟨T, hT⟩ : ∃ T, (fz || tz) = T := ⟨_, rfl⟩
    rw [hT] at HDE ⊢
    clear hT
    have HB4 := Lib.hid (HAW.out wc HO4.out)
    obtain ⟨w4, hw4⟩ : ∃ w4, wc = w4 := ⟨_, rfl⟩
    rw [hw4] at HS4 HO4 HB4 ⊢
    clear hw4
    go_upto_if 41 with (fail)
    go_cut [] from 42 to 47 (fun wx => SOk Γ w m ev (P0 ++ DE) wx ∧ Owp (MayT Γ) w4 wx)
    case first =>
      obtain ⟨x0, x1', x2, x3, xf⟩ := (HB4.out).facts
      cases T
      · have HXF : Hid (DE = []) := HDE.out
        go_wp2_with fail
        go_meet
        case rel =>
          rw [HXF.out, List.append_nil]
          exact ⟨HS4.out, Owp.refl _ _⟩
      · have HXF : Hid (DE = [.bad 280 n p]) := HDE.out
        obtain ⟨-, -, -, -, c4, -, -, -⟩ := HS4.out.2.1.cells
        have hw2 := HW.out.2 k n (some ⟨B, o, none⟩) 2 c p 280 w4.drew
        have egw := HW.out.1
        go_upto_region 4 with (fail)
        go_still_tail 5, (by kernel_rfl)
        change wpList _ _ _ _ _ (World.drew w4)
        have HOa : Hid (Owp (MayT Γ) w4 w4.drew) := Lib.hid (Owp.of_below (Below.refl _ _).drew)
        have HSa : Hid (SOk Γ w m ev P0 w4.drew) := Lib.hid ⟨HS4.out.1, HS4.out.2.1.same fun _ _ => rfl, HS4.out.2.2.trans HOa.out⟩
        generalize World.drew w4 = wa at *
        go_wp2_with fail
        go_at_fn Γ.wf
        refine hw2.mono ?_
        clear hw2 x0 x1' x2 x3 xf c4
        rintro e wb (⟨ha, rfl, hb⟩ | ⟨ha, hb, b, hbl, rfl, hf⟩)
        · have HOb := Lib.hid (HOa.out.below hb)
          have HOK : Hid (SOk Γ w m ev (P0 ++ DE) wb) := by
            show SOk _ _ _ _ _ _
            rw [HXF.out]
            exact HSa.out.trans ⟨.inl ha, (HSa.out.2.1.below hb).badly _ _ _, Owp.of_below hb⟩
          clear ha hb
          go_wp2_with fail
          go_meet
          case rel => exact ⟨HOK.out, HOb.out⟩
        · refine ⟨rfl, .inr ?_⟩
          rw [HTOT.out, HXF.out]
          exact SBad.left (SBad.right HSa.out ⟨ha, 280, n, p, b, rfl, hbl, rfl, hf, Owp.of_below hb⟩) _
    case rest =>
      obtain ⟨hs5, ho5⟩ := hcut
      have HS5 : Hid (SOk Γ w m ev DE wc) := Lib.hid (by rw [← HP0.out] at hs5; exact hs5)
      have HO5 := Lib.hid (HO4.out.trans ho5)
      clear hs5 ho5 HS4 HB4 HTOT HO4
      have HB5 := Lib.hid (HAW.out wc HO5.out)
      obtain ⟨x0, x1', x2, x3, xf⟩ := HB5.out.facts
      have y2 := HKW.out wc HS5.out.2.2
      obtain ⟨w5, hw5⟩ : ∃ w5, wc = w5 := ⟨_, rfl⟩
      rw [hw5] at HS5 HO5 x0 x1' x2 x3 xf y2 ⊢
      clear HB5 hw5
      have hd5 : Below w5.heap.size w5 w5.drew := (Below.refl _ _).drew
      have HS5' := Lib.hid (⟨HS5.out.1, HS5.out.2.1.below hd5, HS5.out.2.2.below hd5⟩ : SOk Γ w m ev DE w5.drew)
      have HO5' := Lib.hid (HO5.out.below hd5)
      have cw := with_any (MayT Γ) ρ _ 1 n L false (by decide) w5.drew (HENV.out.owp HS5'.out.2.2) HS5'.out.2.1.may
      go_upto_region 5 with (fail)
      go_still_tail 13, (by kernel_rfl)
      change wpList _ _ _ _ _ (World.drew w5)
      clear hd5 HS5 HO5
      generalize World.drew w5 = w6 at *
      go_wp2_with fail
      refine cw.mono ?_
      clear cw x0 x1' x2 x3 xf y2
      rintro e w7 ⟨u3, rfl, he7, hb7⟩
      have HS7 := Lib.hid (⟨HS5'.out.1, HS5'.out.2.1.below hb7, HS5'.out.2.2.below hb7⟩ : SOk Γ w m ev DE w7)
      have HO7 := Lib.hid (HO5'.out.below hb7)
      have HE7 := Lib.hid he7
      clear he7 hb7 HS5' HO5'
      go_upto_region 6 with (fail)
      have cw := within_any (MayT Γ) _ u3 w7 HE7.out HS7.out.2.1.may
      go_wp2_with fail
      refine cw.mono ?_
      clear cw
      rintro e w8 ⟨u13, rfl, he8, hb8⟩
      have HS8 := Lib.hid (⟨HS7.out.1, HS7.out.2.1.below hb8, HS7.out.2.2.below hb8⟩ : SOk Γ w m ev DE w8)
      have HO8 := Lib.hid (HO7.out.below hb8)
      have HE8 := Lib.hid he8
      have HE3 := Lib.hid (HE7.out.below hb8)
      clear he8 hb8 HS7 HO7 HE7
      have HB8 := Lib.hid (HAW.out w8 HO8.out)
      obtain ⟨x0, x1', x2, x3, xf⟩ := HB8.out.facts
      have y2 := HKW.out w8 HS8.out.2.2
      go_upto_region 7 with (fail)
      obtain ⟨ρ1, hρ1⟩ : ∃ r, none :: some (1, n, L) :: ρ = r := ⟨_, rfl⟩
      rw [HLL.out] at HREST
      rw [hρ1] at HE8 HREST
      have HR1 := Lib.hid hρ1
      clear hρ1
      go_wp2_with fail
      go_loopg [13, 70] L (fun g u v wx => ∃ i : Nat, v = .int .i64 i ∧ i + g = L ∧ EnvAt wx (MayT Γ) (parV ρ1 (l0.take i)) u ∧ SOk Γ w m ev (DE ++ parE ρ1 (l0.take i)) wx ∧ Owp (MayT Γ) w8 wx)
      case atStart => exact ⟨0, rfl, by omega, HE8.out, by (rw [List.take_zero]; show SOk _ _ _ _ (DE ++ []) _; rw [List.append_nil]; exact HS8.out), Owp.refl _ _⟩
      case round =>
        clear x0 x1' x2 x3 xf y2 HE8 HB8
        obtain ⟨i, rfl, hi, hen, hok, how⟩ := hrel
        have HEN := Lib.hid hen
        have HOK := Lib.hid hok
        have HOW := Lib.hid how
        clear hok hen how
        by_cases hlt : i < L
        · obtain ⟨x, hx⟩ : ∃ x, l0[i]? = some x := ⟨l0[i]'(by have := HLL.out; omega), List.getElem?_eq_getElem _⟩
          obtain ⟨B1, o1, rfl, hat⟩ := (NdRow.mono (fun _ h _ => h) (fun b hb hl => HOK.out.2.2.block b hl hb) _ _ HROW.out : NdRow wr (fun b => ¬ MayT Γ b) l0 y0).at_ hx
          have htk : l0.take (i + 1) = l0.take i ++ [x] := by rw [List.take_add_one, hx]; rfl
          obtain ⟨k1, n1, l1, p1⟩ := x
          have hevs : parE ρ1 (l0.take (i + 1)) = parE ρ1 (l0.take i) ++ dupE (parV ρ1 (l0.take i)) n1 p1 := by
            rw [htk, parE_app]
            show _ ++ (dupE _ _ _ ++ []) = _
            rw [List.append_nil]
          have henv : parV ρ1 (l0.take (i + 1)) = some (0, n1, 0) :: parV ρ1 (l0.take i) := by
            rw [htk, parV_app]
            rfl
          obtain ⟨R2, hcat⟩ : ∃ R2, DE ++ REST = ((DE ++ parE ρ1 (l0.take i)) ++ dupE (parV ρ1 (l0.take i)) n1 p1) ++ R2 := by
            have h1 : l0 = l0.take (i + 1) ++ l0.drop (i + 1) := (List.take_append_drop _ _).symm
            have h2 : parE ρ1 l0 = parE ρ1 (l0.take (i + 1)) ++ parE (parV ρ1 (l0.take (i + 1))) (l0.drop (i + 1)) := by
              conv => lhs; rw [h1]
              exact parE_app _ _ _
            refine ⟨parE (parV ρ1 (l0.take (i + 1))) (l0.drop (i + 1)) ++ evEs (parV ρ1 l0) [x1], ?_⟩
            rw [← HREST.out, h2, hevs]
            simp only [List.append_assoc]
          obtain ⟨-, z0, z1, z3, y1, c1, z2, -⟩ := hat
          have HEV := Lib.hid hevs
          have HNV := Lib.hid henv
          have hlt' : (i : Int) < (L : Int) := by omega
          have Qi1 : IntKind.i64.wrap ((i : Int) + 1) = (i : Int) + 1 := IntWalk.i64_in _ (by omega)
          obtain ⟨ρi, hρi⟩ : ∃ r, parV ρ1 (l0.take i) = r := ⟨_, rfl⟩
          obtain ⟨PE, hPE⟩ : ∃ r, DE ++ parE ρ1 (l0.take i) = r := ⟨_, rfl⟩
          obtain ⟨DU, hDU⟩ : ∃ r, dupE ρi n1 p1 = r := ⟨_, rfl⟩
          rw [hρi] at HEN hcat HEV HNV
          rw [hDU] at hcat HEV
          rw [hPE] at HOK hcat
          have HPE := Lib.hid hPE
          have HDU := Lib.hid hDU
          have HTOT1 := Lib.hid hcat
          clear hx hevs henv htk hρi hPE hDU hcat
          go_upto_region 10 with (fail)
          have hal : Below wr.heap.size wr (wr.alloc (.cells #[.int .i64 k1, .string ⟨n1.toArray⟩, .slice y1 l1.length c1, .int .i64 p1] 53)) := (Below.refl _ _).alloc (Nat.le_refl _) _
          have HS1 : Hid (SOk Γ w m ev PE _) := Lib.hid ⟨HOK.out.1, HOK.out.2.1.below hal, HOK.out.2.2.below hal⟩
          have HOW1 := Lib.hid (HOW.out.below hal)
          have HEN1 := Lib.hid (HEN.out.below hal)
          have HBX := Lib.hid (Box4.new wr (.int .i64 k1) (.string ⟨n1.toArray⟩) (.slice y1 l1.length c1) (.int .i64 p1))
          have hfresh : w.heap.size ≤ wr.heap.size := HOK.out.2.2.size
          obtain ⟨bx, hbx⟩ : ∃ bx, wr.heap.size = bx := ⟨_, rfl⟩
          rw [hbx] at HBX hfresh ⊢
          have HFR := Lib.hid hfresh
          clear hbx z0 z1 z2 z3 HOK hal HOW HEN hfresh
          generalize World.alloc wr (.cells #[.int .i64 k1, .string ⟨n1.toArray⟩, .slice y1 l1.length c1, .int .i64 p1] 53) = w1 at HS1 HOW1 HEN1 HBX ⊢
          have hbw : ∀ w2, Owp (MayT Γ) w1 w2 → Box4 w2 bx (.int .i64 k1) (.string ⟨n1.toArray⟩) (.slice y1 l1.length c1) (.int .i64 p1) := fun w2 ho => ho.keep (fun hm => by have := HMAY.out bx hm; have := HFR.out; omega) HBX.out
          have HBW := Lib.hid hbw
          clear hbw
          obtain ⟨x0, x1', x2, x3, xf⟩ := HBX.out.facts
          obtain ⟨F1, cap1, rfl, eg1, hc⟩ := env_any _ _ _ _ HEN1.out
          have c0 := hc 0 n1 true
          unfold TkEnd at c0
          obtain ⟨sx, hsx⟩ : ∃ x, tkA ρi 0 n1 true = x := ⟨_, rfl⟩
          obtain ⟨sy, hsy⟩ : ∃ x, tkB ρi 0 n1 true = x := ⟨_, rfl⟩
          obtain ⟨sz, hsz⟩ : ∃ x, (findE ρi 0 n1 true).isSome = x := ⟨_, rfl⟩
          rw [hsx, hsy, hsz] at c0
          obtain ⟨tb, htb⟩ : ∃ x, truthB n1 = x := ⟨_, rfl⟩
          have HDUE : Hid (DU = if sz || tb then [.bad 280 n1 p1] else []) := Lib.hid (by
            rw [← HDU.out, ← hsz, ← htb]
            rfl)
          have HTB := Lib.hid htb
          clear hc hsx hsy hsz htb
          go_wp2_with fail
          go_at_fn F1
          refine c0.mono ?_
          clear c0 x0 x1' x2 x3 xf
          rintro e w2 ⟨rfl, hb2⟩
          go_upto_region 11 with (fail)
          have hb3 : Below w1.heap.size w1 (w2.alloc (.cells #[.int .i64 sx, .bool sy] 171)) := tr hb2 ((Below.refl _ _).alloc (Nat.le_refl _) _)
          have HS3 := Lib.hid (⟨HS1.out.1, HS1.out.2.1.below hb3, HS1.out.2.2.below hb3⟩ : SOk Γ w m ev PE _)
          have HO3 : Hid (Owp (MayT Γ) w1 _) := Lib.hid (Owp.of_below hb3)
          clear hb2 hb3 HS1
          generalize World.alloc w2 (.cells #[.int .i64 sx, .bool sy] 171) = w3 at HS3 HO3 ⊢
          have HB3 := Lib.hid (HBW.out w3 HO3.out)
          obtain ⟨x0, x1', x2, x3, xf⟩ := HB3.out.facts
          have ct := truth_any n1 w3
          rw [HTB.out] at ct
          go_cut [86] from 81 to 86 (fun v wx => v = .bool (sz || tb) ∧ SOk Γ w m ev PE wx ∧ Owp (MayT Γ) w1 wx)
          case first =>
            cases sz
            · go_wp2_with (first | (go_at_call 203; (with_reducible refine ct.mono ?_); rintro e w4 ⟨rfl, rfl⟩))
              go_meet
              case rel => exact ⟨rfl, HS3.out, HO3.out⟩
            · go_wp2_with fail
              go_meet
              case rel => exact ⟨rfl, HS3.out, HO3.out⟩
          case rest =>
            obtain ⟨rfl, hs4, ho4⟩ := hcut
            have HS4 := Lib.hid hs4
            have HO4 := Lib.hid ho4
            clear hs4 ho4 HS3 HO3 HB3 x0 x1' x2 x3 xf ct
            obtain ⟨T, hT⟩ : ∃ T, (sz || tb) = T := ⟨_, rfl⟩
            rw [hT] at HDUE ⊢
            clear hT
            have HB4 := Lib.hid (HBW.out wc HO4.out)
            obtain ⟨w4, hw4⟩ : ∃ w4, wc = w4 := ⟨_, rfl⟩
            rw [hw4] at HS4 HO4 HB4 ⊢
            clear hw4
            go_upto_if 86 with (fail)
            go_cut [] from 87 to 92 (fun wx => SOk Γ w m ev (PE ++ DU) wx ∧ Owp (MayT Γ) w4 wx)
            case first =>
              obtain ⟨x0, x1', x2, x3, xf⟩ := (HB4.out).facts
              cases T
              · have HXF : Hid (DU = []) := HDUE.out
                go_wp2_with fail
                go_meet
                case rel =>
                  rw [HXF.out, List.append_nil]
                  exact ⟨HS4.out, Owp.refl _ _⟩
              · have HXF : Hid (DU = [.bad 280 n1 p1]) := HDUE.out
                obtain ⟨-, -, -, -, c4, -, -, -⟩ := HS4.out.2.1.cells
                have hw2 := HW.out.2 k1 n1 y1 l1.length c1 p1 280 w4.drew
                have egw := HW.out.1
                go_upto_region 12 with (fail)
                go_still_tail 5, (by kernel_rfl)
                change wpList _ _ _ _ _ (World.drew w4)
                have HOa : Hid (Owp (MayT Γ) w4 w4.drew) := Lib.hid (Owp.of_below (Below.refl _ _).drew)
                have HSa : Hid (SOk Γ w m ev PE w4.drew) := Lib.hid ⟨HS4.out.1, HS4.out.2.1.same fun _ _ => rfl, HS4.out.2.2.trans HOa.out⟩
                generalize World.drew w4 = wa at *
                go_wp2_with fail
                go_at_fn Γ.wf
                refine hw2.mono ?_
                clear hw2 x0 x1' x2 x3 xf c4
                rintro e wb (⟨ha, rfl, hb⟩ | ⟨ha, hb, b, hbl, rfl, hf⟩)
                · have HOb := Lib.hid (HOa.out.below hb)
                  have HOK : Hid (SOk Γ w m ev (PE ++ DU) wb) := by
                    show SOk _ _ _ _ _ _
                    rw [HXF.out]
                    exact HSa.out.trans ⟨.inl ha, (HSa.out.2.1.below hb).badly _ _ _, Owp.of_below hb⟩
                  clear ha hb
                  go_wp2_with fail
                  go_meet
                  case rel => exact ⟨HOK.out, HOb.out⟩
                · refine ⟨rfl, .inr ?_⟩
                  rw [HTOT1.out, HXF.out]
                  exact SBad.left (SBad.right HSa.out ⟨ha, 280, n1, p1, b, rfl, hbl, rfl, hf, Owp.of_below hb⟩) _
            case rest =>
              obtain ⟨hs5, ho5⟩ := hcut
              have HS5 := Lib.hid hs5
              have HO5 := Lib.hid (HO4.out.trans ho5)
              have HB5 := Lib.hid (HBW.out wc HO5.out)
              clear hs5 ho5 HS4 HO4 HB4
              obtain ⟨x0, x1', x2, x3, xf⟩ := HB5.out.facts
              have cw := with_any (MayT Γ) ρi _ 0 n1 0 false (by decide) wc (HEN1.out.owp HO5.out) HS5.out.2.1.may
              go_wp2_with fail
              refine cw.mono ?_
              clear cw x0 x1' x2 x3 xf
              rintro e w6 ⟨u6, rfl, he6, hb6⟩
              have HE6 : Hid (EnvAt w6 (MayT Γ) (parV ρ1 (l0.take (i + 1))) u6) := by
                show EnvAt _ _ _ _
                rw [HNV.out]
                exact he6
              have HS6 : Hid (SOk Γ w m ev (DE ++ parE ρ1 (l0.take (i + 1))) w6) := by
                show SOk _ _ _ _ _ _
                rw [HEV.out, ← List.append_assoc, HPE.out]
                exact ⟨HS5.out.1, HS5.out.2.1.below hb6, HS5.out.2.2.below hb6⟩
              have HO6 := Lib.hid ((HOW1.out.trans HO5.out).below hb6)
              clear he6 hb6
              go_wp2_with fail
              go_roundg (gk - 1)
              case measure => omega
              case rel => exact ⟨i + 1, rfl, by omega, HE6.out, HS6.out, HO6.out⟩
        · have hlt' : ¬ (i : Int) < (L : Int) := by omega
          have htk : l0.take i = l0 := List.take_of_length_le (by have := HLL.out; omega)
          rw [htk] at HEN HOK
          clear htk
          have HBZ := Lib.hid (HAW.out wr (HO8.out.trans HOW.out))
          have HE9 := Lib.hid (HE3.out.owp HOW.out)
          obtain ⟨x0, x1', x2, x3, xf⟩ := HBZ.out.facts
          have HOWR := HOW
          clear HBZ HE3 HS8 HOW
          obtain ⟨k1, n1, l1, p1⟩ := x1
          obtain ⟨hok1, z0, z1, z3, y1, c1, z2, hk1⟩ := (HAT1.out.mono (fun _ h _ => h) (fun b hb hl => HOK.out.2.2.block b hl hb) : NdAt wr (fun b => ¬ MayT Γ b) (.mk k1 n1 l1 p1) B (o + 4))
          have hcat : DE ++ REST = (DE ++ parE ρ1 l0) ++ evE (parV ρ1 l0) (.mk k1 n1 l1 p1) := by
            rw [← HREST.out]
            show DE ++ (parE ρ1 l0 ++ (evE (parV ρ1 l0) (.mk k1 n1 l1 p1) ++ [])) = _
            rw [List.append_nil, List.append_assoc]
          have HCAT := Lib.hid hcat
          obtain ⟨PE, hPE⟩ : ∃ r, DE ++ parE ρ1 l0 = r := ⟨_, rfl⟩
          rw [hPE] at HOK HCAT
          clear hcat hPE
          have cx := HX.out wr m _ (parV ρ1 l0) (.agg #[.int .i64 k1, .string ⟨n1.toArray⟩, .slice y1 l1.length c1, .int .i64 p1]) _ ⟨y1, c1, rfl, hk1⟩ HEN.out HOK.out.2.1 (by
            have := HL.out
            rw [HCAT.out] at this
            simp only [List.length_append] at this ⊢
            omega)
          clear hk1 hok1
          go_wp2_with fail
          refine cx.mono ?_
          clear cx x0 x1' x2 x3 xf z0 z1 z2 z3
          rintro e w2 (⟨rfl, hok⟩ | hbad)
          · have HOK2 := Lib.hid (HOK.out.trans hok)
            have HE2 := Lib.hid (HE9.out.owp hok.2.2)
            clear hok
            go_wp2_with fail
            go_ret
            refine .inl ⟨_, rfl, ?_, ?_⟩
            · show EnvAt _ _ (some (1, n, l0.length) :: ρ) _
              rw [HLL.out]
              exact HE2.out
            · rw [HCAT.out]
              exact HOK2.out
          · have hb2 : SBad Γ w (DE ++ REST) e w2 := by
              rw [HCAT.out]
              exact SBad.right HOK.out hbad
            obtain ⟨ch, rfl⟩ := hbad.pan
            exact ⟨rfl, .inr hb2⟩
set_option maxHeartbeats 4000000 in
set_option maxRecDepth 100000 in
theorem body2_step (Γ : SCtx) (hw : WrongOk Γ) (k : Int) (n : List UInt8) (k0 : Int) (n0 : List UInt8) (l0 : List Nd) (p0 : Int) (x1 : Nd) (p : Int) (hX : BlockOk Γ x1.kids) :
    BodyOk Γ 2 (fun ρ m => defE ρ 2 n p ++ (parE (none :: some (2, n, l0.length) :: ρ) l0 ++ evBs [x1] (parV (none :: some (2, n, l0.length) :: ρ) l0) (m + 1))) k n [.mk k0 n0 l0 p0, x1] p := by
  intro w m ev ρ v u hv hu h hwt hl
  dsimp only at hl ⊢
  obtain ⟨y, cv, rfl, hrow⟩ := hv
  generalize cv.val = c
  clear cv
  obtain ⟨B, o, rfl, hat, hrow1⟩ := hrow
  obtain ⟨hokb, -, -, -, y0, cv0, hy2, hk0⟩ := hat
  generalize cv0.val = c0' at hy2
  clear cv0
  obtain ⟨B', o', hBo, hat1, -⟩ := hrow1
  cases hBo
  have hA : Below w.heap.size w (w.alloc (.cells #[.int .i64 k, .string ⟨n.toArray⟩, .slice (some ⟨B, o, none⟩) 2 c, .int .i64 p] 53)) := (Below.refl _ _).alloc (Nat.le_refl _) _
  obtain ⟨F, cap, rfl, eg, -⟩ := env_any _ ρ u w hu
  obtain ⟨L, hL⟩ : ∃ L, l0.length = L := ⟨_, rfl⟩
  have HKW : Hid (∀ w1, Owp (MayT Γ) w w1 → w1.cell? ⟨B, o + 2, none⟩ = some (.slice y0 L c0')) := Lib.hid fun w1 ho => by rw [← hL]; exact ho.cell (p := ⟨B, o + 2, none⟩) hokb.ok hy2
  have H0 := Lib.hid (SOk.start h hA)
  have HB := Lib.hid (Box4.new w (.int .i64 k) (.string ⟨n.toArray⟩) (.slice (some ⟨B, o, none⟩) 2 c) (.int .i64 p))
  have HROW := Lib.hid hk0
  have HAT1 := Lib.hid hat1
  have HENV := Lib.hid hu
  have HW := Lib.hid hw
  have HX := Lib.hid hX
  have HL := Lib.hid hl
  have HA := Lib.hid hA
  have HMAY := Lib.hid h.may
  have HWT := Lib.hid hwt
  have HLL := Lib.hid hL
  have hwt2 : wtN (.mk k n [.mk k0 n0 l0 p0, x1] p) = (wtL l0 + n0.length + 1 + (wtN x1 + 0)) + n.length + 1 := by
    rw [wtN_mk]
    show (wtN (.mk k0 n0 l0 p0) + (wtN x1 + 0)) + _ + _ = _
    rw [wtN_mk]
  have HWT2 := Lib.hid hwt2
  have hLs : L < 2 ^ 40 := by
    have h1 := len_wtL l0
    omega
  have HN : Hid (n.length < 2 ^ 40) := Lib.hid (by omega)
  clear hA hu hw hX hl hwt hk0 hokb hy2 hwt2 hat1
  have hc := (env_any _ ρ _ _ (HENV.out.below HA.out))
  obtain ⟨F', cap', hf, -, hc⟩ := hc
  cases hf
  have c0 := hc 2 n true
  unfold TkEnd at c0
  obtain ⟨tx, htx⟩ : ∃ x, tkA ρ 2 n true = x := ⟨_, rfl⟩
  obtain ⟨ty, hty⟩ : ∃ x, tkB ρ 2 n true = x := ⟨_, rfl⟩
  obtain ⟨tz, htz⟩ : ∃ x, (findE ρ 2 n true).isSome = x := ⟨_, rfl⟩
  rw [htx, hty, htz] at c0
  have HTZ := Lib.hid htz
  clear hc htx hty htz h hL
  obtain ⟨fz, hfz⟩ : ∃ x, (mdB n).isSome = x := ⟨_, rfl⟩
  have HFZ := Lib.hid hfz
  obtain ⟨P0, hP0⟩ : ∃ P : List Ev, [] = P := ⟨_, rfl⟩
  obtain ⟨DE, hDE⟩ : ∃ D, defE ρ 2 n p = D := ⟨_, rfl⟩
  have HDE : Hid (DE = if fz || tz then [.bad 280 n p] else []) := Lib.hid (by
    rw [← hDE, ← HFZ.out, ← HTZ.out]
    unfold defE
    simp)
  rw [hDE] at HL ⊢
  obtain ⟨REST, hREST⟩ : ∃ D, parE (none :: some (2, n, l0.length) :: ρ) l0 ++ evBs [x1] (parV (none :: some (2, n, l0.length) :: ρ) l0) (m + 1) = D := ⟨_, rfl⟩
  have HREST := Lib.hid hREST
  rw [hREST] at HL ⊢
  have HTOT : Hid (DE ++ REST = (P0 ++ DE) ++ REST) := Lib.hid (by rw [← hP0]; rfl)
  have HP0 := Lib.hid hP0
  clear hP0 hDE hREST hfz
  go_enter Tryz.func206, Tryz.ntmps206
  go_upto_region 1 with (fail)
  obtain ⟨a, ha⟩ : ∃ a, w.heap.size = a := ⟨_, rfl⟩
  rw [ha] at HB ⊢
  have HAA := Lib.hid ha
  clear ha
  generalize World.alloc w (.cells #[.int .i64 k, .string ⟨n.toArray⟩, .slice (some ⟨B, o, none⟩) 2 c, .int .i64 p] 53) = W at HA H0 HB c0 ⊢
  have haw : ∀ w1, Owp (MayT Γ) W w1 → Box4 w1 a (.int .i64 k) (.string ⟨n.toArray⟩) (.slice (some ⟨B, o, none⟩) 2 c) (.int .i64 p) := fun w1 ho => (ho.block a HB.out.lt (fun hm => by have := HMAY.out a hm; have := HAA.out; omega)).trans HB.out
  have HAW := Lib.hid haw
  clear haw
  have hW0 : WSt Γ W m ev := by
    have := H0.out.2.1
    rwa [List.append_nil] at this
  have HW0 := Lib.hid hW0
  obtain ⟨x0, x1', x2, x3, xf⟩ := HB.out.facts
  clear hW0
  go_wp2_with fail
  go_at_fn F
  refine c0.mono ?_
  clear c0 x0 x1' x2 x3 xf
  rintro e w1 ⟨rfl, hb1⟩
  go_upto_region 2 with (fail)
  have hal : Below w1.heap.size w1 (w1.alloc (.cells #[.int .i64 tx, .bool ty] 171)) := (Below.refl _ _).alloc (Nat.le_refl _) _
  have HW2 := Lib.hid ((HW0.out.below hb1).below hal)
  have HO2 : Hid (Owp (MayT Γ) W _) := Lib.hid ((Owp.of_below hb1).below hal)
  clear hal hb1
  generalize World.alloc w1 (.cells #[.int .i64 tx, .bool ty] 171) = w2 at HW2 HO2 ⊢
  have HB2 := Lib.hid (HAW.out w2 HO2.out)
  obtain ⟨b9, hb9⟩ : ∃ b9, w2.heap.size = b9 := ⟨_, rfl⟩
  have hz : Below w2.heap.size w2 (w2.alloc (.cells #[.int .i64 0, .bool false] 171)) := (Below.refl _ _).alloc (Nat.le_refl _) _
  have HWZ := Lib.hid (HW2.out.below hz)
  have HOZ := Lib.hid (HO2.out.below hz)
  have HTZ2 := Lib.hid (Box2.new w2 (.int .i64 0) (.bool false))
  have hb9a : W.heap.size ≤ b9 := by
    have := HO2.out.size
    omega
  have HB9 := Lib.hid hb9a
  rw [hb9] at HTZ2
  have HB2Z := Lib.hid (HAW.out _ HOZ.out)
  obtain ⟨x0, x1', x2, x3, xf⟩ := HB2Z.out.facts
  obtain ⟨-, c1, c2, -, -, -, -, -⟩ := HWZ.out.cells
  obtain ⟨x0b, x1b, x2b, x3b, xfb⟩ := HB2.out.facts
  obtain ⟨-, c1b, c2b, -, -, -, -, -⟩ := HW2.out.cells
  have t0 : (w2.alloc (.cells #[.int .i64 0, .bool false] 171)).cell? ⟨b9, 0, none⟩ = some (.int .i64 0) := by simp [World.cell?, HTZ2.out]
  have t1 : (w2.alloc (.cells #[.int .i64 0, .bool false] 171)).cell? ⟨b9, 1, none⟩ = some (.bool false) := by simp [World.cell?, HTZ2.out]
  have tf : ∀ o, (w2.alloc (.cells #[.int .i64 0, .bool false] 171)).frozen? ⟨b9, o, none⟩ = false := fun o => by simp only [World.frozen?, HTZ2.out]; simp
  obtain ⟨lx, lz, hlooks⟩ := TkMap.lookAll (HW2.out.mds) n (by have := HN.out; unfold maxLen; omega)
  have hlook := hlooks w2.drew rfl
  have hlook2 := hlooks (w2.alloc (.cells #[.int .i64 0, .bool false] 171)).drew (hz.block _ HW2.out.mds.lt)
  rw [HFZ.out] at hlook hlook2
  clear hz hb9a hlooks
  go_cut [11, 12] from 26 to 37 (fun _ v wx => v = .bool fz ∧ Below w2.heap.size w2 wx)
  case first =>
    go_region
    all_goals go_wp2_with fail
    all_goals go_meet
    all_goals refine ⟨rfl, ?_⟩
    all_goals (first | exact ((Below.refl _ _).alloc (Nat.le_refl _) _).drew | exact ((Below.refl _ _).drew).alloc (Nat.le_refl _) _)
  case rest =>
  obtain ⟨rfl, hb3⟩ := hcut
  have HW3 := Lib.hid (HW2.out.below hb3)
  have HO3 := Lib.hid (HO2.out.below hb3)
  clear hlook hlook2 c1 c2 c1b c2b x0 x1' x2 x3 xf x0b x1b x2b x3b xfb t0 t1 tf hb3 HW2 HO2 HWZ HOZ HTZ2 HB2Z HB2
  obtain ⟨w3, hw3⟩ : ∃ w3, wc = w3 := ⟨_, rfl⟩
  rw [hw3] at HW3 HO3 ⊢
  clear hw3
  go_upto_region 3 with (fail)
  have HB3 := Lib.hid (HAW.out w3 HO3.out)
  have HS3 : Hid (SOk Γ w m ev P0 w3) := Lib.hid ⟨.inr (by rw [← HP0.out]; rfl), by rw [← HP0.out]; exact HW3.out.nil, (Owp.of_below HA.out).trans HO3.out⟩
  go_cut [41] from 38 to 41 (fun v wx => v = .bool (fz || tz) ∧ SOk Γ w m ev P0 wx ∧ Owp (MayT Γ) w3 wx)
  case first =>
    cases fz
    · cases tz
      · go_wp2_with fail
        go_meet
        case rel => exact ⟨rfl, HS3.out, Owp.refl _ _⟩
      · go_wp2_with fail
        go_meet
        case rel => exact ⟨rfl, HS3.out, Owp.refl _ _⟩
    · go_wp2_with fail
      go_meet
      case rel => exact ⟨rfl, HS3.out, Owp.refl _ _⟩
  case rest =>
    obtain ⟨rfl, hs4, ho4⟩ := hcut
    have HS4 := Lib.hid hs4
    have HO4 := Lib.hid (HO3.out.trans ho4)
    clear hs4 ho4 HS3 HO3 HW3 HB3
    obtain ⟨T, hT⟩ : ∃ T, (fz || tz) = T := ⟨_, rfl⟩
    rw [hT] at HDE ⊢
    clear hT
    have HB4 := Lib.hid (HAW.out wc HO4.out)
    obtain ⟨w4, hw4⟩ : ∃ w4, wc = w4 := ⟨_, rfl⟩
    rw [hw4] at HS4 HO4 HB4 ⊢
    clear hw4
    go_upto_if 41 with (fail)
    go_cut [] from 42 to 47 (fun wx => SOk Γ w m ev (P0 ++ DE) wx ∧ Owp (MayT Γ) w4 wx)
    case first =>
      obtain ⟨x0, x1', x2, x3, xf⟩ := (HB4.out).facts
      cases T
      · have HXF : Hid (DE = []) := HDE.out
        go_wp2_with fail
        go_meet
        case rel =>
          rw [HXF.out, List.append_nil]
          exact ⟨HS4.out, Owp.refl _ _⟩
      · have HXF : Hid (DE = [.bad 280 n p]) := HDE.out
        obtain ⟨-, -, -, -, c4, -, -, -⟩ := HS4.out.2.1.cells
        have hw2 := HW.out.2 k n (some ⟨B, o, none⟩) 2 c p 280 w4.drew
        have egw := HW.out.1
        go_upto_region 4 with (fail)
        go_still_tail 5, (by kernel_rfl)
        change wpList _ _ _ _ _ (World.drew w4)
        have HOa : Hid (Owp (MayT Γ) w4 w4.drew) := Lib.hid (Owp.of_below (Below.refl _ _).drew)
        have HSa : Hid (SOk Γ w m ev P0 w4.drew) := Lib.hid ⟨HS4.out.1, HS4.out.2.1.same fun _ _ => rfl, HS4.out.2.2.trans HOa.out⟩
        generalize World.drew w4 = wa at *
        go_wp2_with fail
        go_at_fn Γ.wf
        refine hw2.mono ?_
        clear hw2 x0 x1' x2 x3 xf c4
        rintro e wb (⟨ha, rfl, hb⟩ | ⟨ha, hb, b, hbl, rfl, hf⟩)
        · have HOb := Lib.hid (HOa.out.below hb)
          have HOK : Hid (SOk Γ w m ev (P0 ++ DE) wb) := by
            show SOk _ _ _ _ _ _
            rw [HXF.out]
            exact HSa.out.trans ⟨.inl ha, (HSa.out.2.1.below hb).badly _ _ _, Owp.of_below hb⟩
          clear ha hb
          go_wp2_with fail
          go_meet
          case rel => exact ⟨HOK.out, HOb.out⟩
        · refine ⟨rfl, .inr ?_⟩
          rw [HTOT.out, HXF.out]
          exact SBad.left (SBad.right HSa.out ⟨ha, 280, n, p, b, rfl, hbl, rfl, hf, Owp.of_below hb⟩) _
    case rest =>
      obtain ⟨hs5, ho5⟩ := hcut
      have HS5 : Hid (SOk Γ w m ev DE wc) := Lib.hid (by rw [← HP0.out] at hs5; exact hs5)
      have HO5 := Lib.hid (HO4.out.trans ho5)
      clear hs5 ho5 HS4 HB4 HTOT HO4
      have HB5 := Lib.hid (HAW.out wc HO5.out)
      obtain ⟨x0, x1', x2, x3, xf⟩ := HB5.out.facts
      have y2 := HKW.out wc HS5.out.2.2
      obtain ⟨w5, hw5⟩ : ∃ w5, wc = w5 := ⟨_, rfl⟩
      rw [hw5] at HS5 HO5 x0 x1' x2 x3 xf y2 ⊢
      clear HB5 hw5
      have hd5 : Below w5.heap.size w5 w5.drew := (Below.refl _ _).drew
      have HS5' := Lib.hid (⟨HS5.out.1, HS5.out.2.1.below hd5, HS5.out.2.2.below hd5⟩ : SOk Γ w m ev DE w5.drew)
      have HO5' := Lib.hid (HO5.out.below hd5)
      have cw := with_any (MayT Γ) ρ _ 2 n L true (by decide) w5.drew (HENV.out.owp HS5'.out.2.2) HS5'.out.2.1.may
      go_upto_region 5 with (fail)
      go_still_tail 13, (by kernel_rfl)
      change wpList _ _ _ _ _ (World.drew w5)
      clear hd5 HS5 HO5
      generalize World.drew w5 = w6 at *
      go_wp2_with fail
      refine cw.mono ?_
      clear cw x0 x1' x2 x3 xf y2
      rintro e w7 ⟨u3, rfl, he7, hb7⟩
      have HS7 := Lib.hid (⟨HS5'.out.1, HS5'.out.2.1.below hb7, HS5'.out.2.2.below hb7⟩ : SOk Γ w m ev DE w7)
      have HO7 := Lib.hid (HO5'.out.below hb7)
      have HE7 := Lib.hid he7
      clear he7 hb7 HS5' HO5'
      go_upto_region 6 with (fail)
      have cw := within_any (MayT Γ) _ u3 w7 HE7.out HS7.out.2.1.may
      go_wp2_with fail
      refine cw.mono ?_
      clear cw
      rintro e w8 ⟨u13, rfl, he8, hb8⟩
      have HS8 := Lib.hid (⟨HS7.out.1, HS7.out.2.1.below hb8, HS7.out.2.2.below hb8⟩ : SOk Γ w m ev DE w8)
      have HO8 := Lib.hid (HO7.out.below hb8)
      have HE8 := Lib.hid he8
      have HE3 := Lib.hid (HE7.out.below hb8)
      clear he8 hb8 HS7 HO7 HE7
      have HB8 := Lib.hid (HAW.out w8 HO8.out)
      obtain ⟨x0, x1', x2, x3, xf⟩ := HB8.out.facts
      have y2 := HKW.out w8 HS8.out.2.2
      go_upto_region 7 with (fail)
      obtain ⟨ρ1, hρ1⟩ : ∃ r, none :: some (2, n, L) :: ρ = r := ⟨_, rfl⟩
      rw [HLL.out] at HREST
      rw [hρ1] at HE8 HREST
      have HR1 := Lib.hid hρ1
      clear hρ1
      go_wp2_with fail
      go_loopg [13, 70] L (fun g u v wx => ∃ i : Nat, v = .int .i64 i ∧ i + g = L ∧ EnvAt wx (MayT Γ) (parV ρ1 (l0.take i)) u ∧ SOk Γ w m ev (DE ++ parE ρ1 (l0.take i)) wx ∧ Owp (MayT Γ) w8 wx)
      case atStart => exact ⟨0, rfl, by omega, HE8.out, by (rw [List.take_zero]; show SOk _ _ _ _ (DE ++ []) _; rw [List.append_nil]; exact HS8.out), Owp.refl _ _⟩
      case round =>
        clear x0 x1' x2 x3 xf y2 HE8 HB8
        obtain ⟨i, rfl, hi, hen, hok, how⟩ := hrel
        have HEN := Lib.hid hen
        have HOK := Lib.hid hok
        have HOW := Lib.hid how
        clear hok hen how
        by_cases hlt : i < L
        · obtain ⟨x, hx⟩ : ∃ x, l0[i]? = some x := ⟨l0[i]'(by have := HLL.out; omega), List.getElem?_eq_getElem _⟩
          obtain ⟨B1, o1, rfl, hat⟩ := (NdRow.mono (fun _ h _ => h) (fun b hb hl => HOK.out.2.2.block b hl hb) _ _ HROW.out : NdRow wr (fun b => ¬ MayT Γ b) l0 y0).at_ hx
          have htk : l0.take (i + 1) = l0.take i ++ [x] := by rw [List.take_add_one, hx]; rfl
          obtain ⟨k1, n1, l1, p1⟩ := x
          have hevs : parE ρ1 (l0.take (i + 1)) = parE ρ1 (l0.take i) ++ dupE (parV ρ1 (l0.take i)) n1 p1 := by
            rw [htk, parE_app]
            show _ ++ (dupE _ _ _ ++ []) = _
            rw [List.append_nil]
          have henv : parV ρ1 (l0.take (i + 1)) = some (0, n1, 0) :: parV ρ1 (l0.take i) := by
            rw [htk, parV_app]
            rfl
          obtain ⟨R2, hcat⟩ : ∃ R2, DE ++ REST = ((DE ++ parE ρ1 (l0.take i)) ++ dupE (parV ρ1 (l0.take i)) n1 p1) ++ R2 := by
            have h1 : l0 = l0.take (i + 1) ++ l0.drop (i + 1) := (List.take_append_drop _ _).symm
            have h2 : parE ρ1 l0 = parE ρ1 (l0.take (i + 1)) ++ parE (parV ρ1 (l0.take (i + 1))) (l0.drop (i + 1)) := by
              conv => lhs; rw [h1]
              exact parE_app _ _ _
            refine ⟨parE (parV ρ1 (l0.take (i + 1))) (l0.drop (i + 1)) ++ evBs [x1] (parV ρ1 l0) (m + 1), ?_⟩
            rw [← HREST.out, h2, hevs]
            simp only [List.append_assoc]
          obtain ⟨-, z0, z1, z3, y1, c1, z2, -⟩ := hat
          have HEV := Lib.hid hevs
          have HNV := Lib.hid henv
          have hlt' : (i : Int) < (L : Int) := by omega
          have Qi1 : IntKind.i64.wrap ((i : Int) + 1) = (i : Int) + 1 := IntWalk.i64_in _ (by omega)
          obtain ⟨ρi, hρi⟩ : ∃ r, parV ρ1 (l0.take i) = r := ⟨_, rfl⟩
          obtain ⟨PE, hPE⟩ : ∃ r, DE ++ parE ρ1 (l0.take i) = r := ⟨_, rfl⟩
          obtain ⟨DU, hDU⟩ : ∃ r, dupE ρi n1 p1 = r := ⟨_, rfl⟩
          rw [hρi] at HEN hcat HEV HNV
          rw [hDU] at hcat HEV
          rw [hPE] at HOK hcat
          have HPE := Lib.hid hPE
          have HDU := Lib.hid hDU
          have HTOT1 := Lib.hid hcat
          clear hx hevs henv htk hρi hPE hDU hcat
          go_upto_region 10 with (fail)
          have hal : Below wr.heap.size wr (wr.alloc (.cells #[.int .i64 k1, .string ⟨n1.toArray⟩, .slice y1 l1.length c1, .int .i64 p1] 53)) := (Below.refl _ _).alloc (Nat.le_refl _) _
          have HS1 : Hid (SOk Γ w m ev PE _) := Lib.hid ⟨HOK.out.1, HOK.out.2.1.below hal, HOK.out.2.2.below hal⟩
          have HOW1 := Lib.hid (HOW.out.below hal)
          have HEN1 := Lib.hid (HEN.out.below hal)
          have HBX := Lib.hid (Box4.new wr (.int .i64 k1) (.string ⟨n1.toArray⟩) (.slice y1 l1.length c1) (.int .i64 p1))
          have hfresh : w.heap.size ≤ wr.heap.size := HOK.out.2.2.size
          obtain ⟨bx, hbx⟩ : ∃ bx, wr.heap.size = bx := ⟨_, rfl⟩
          rw [hbx] at HBX hfresh ⊢
          have HFR := Lib.hid hfresh
          clear hbx z0 z1 z2 z3 HOK hal HOW HEN hfresh
          generalize World.alloc wr (.cells #[.int .i64 k1, .string ⟨n1.toArray⟩, .slice y1 l1.length c1, .int .i64 p1] 53) = w1 at HS1 HOW1 HEN1 HBX ⊢
          have hbw : ∀ w2, Owp (MayT Γ) w1 w2 → Box4 w2 bx (.int .i64 k1) (.string ⟨n1.toArray⟩) (.slice y1 l1.length c1) (.int .i64 p1) := fun w2 ho => ho.keep (fun hm => by have := HMAY.out bx hm; have := HFR.out; omega) HBX.out
          have HBW := Lib.hid hbw
          clear hbw
          obtain ⟨x0, x1', x2, x3, xf⟩ := HBX.out.facts
          obtain ⟨F1, cap1, rfl, eg1, hc⟩ := env_any _ _ _ _ HEN1.out
          have c0 := hc 0 n1 true
          unfold TkEnd at c0
          obtain ⟨sx, hsx⟩ : ∃ x, tkA ρi 0 n1 true = x := ⟨_, rfl⟩
          obtain ⟨sy, hsy⟩ : ∃ x, tkB ρi 0 n1 true = x := ⟨_, rfl⟩
          obtain ⟨sz, hsz⟩ : ∃ x, (findE ρi 0 n1 true).isSome = x := ⟨_, rfl⟩
          rw [hsx, hsy, hsz] at c0
          obtain ⟨tb, htb⟩ : ∃ x, truthB n1 = x := ⟨_, rfl⟩
          have HDUE : Hid (DU = if sz || tb then [.bad 280 n1 p1] else []) := Lib.hid (by
            rw [← HDU.out, ← hsz, ← htb]
            rfl)
          have HTB := Lib.hid htb
          clear hc hsx hsy hsz htb
          go_wp2_with fail
          go_at_fn F1
          refine c0.mono ?_
          clear c0 x0 x1' x2 x3 xf
          rintro e w2 ⟨rfl, hb2⟩
          go_upto_region 11 with (fail)
          have hb3 : Below w1.heap.size w1 (w2.alloc (.cells #[.int .i64 sx, .bool sy] 171)) := tr hb2 ((Below.refl _ _).alloc (Nat.le_refl _) _)
          have HS3 := Lib.hid (⟨HS1.out.1, HS1.out.2.1.below hb3, HS1.out.2.2.below hb3⟩ : SOk Γ w m ev PE _)
          have HO3 : Hid (Owp (MayT Γ) w1 _) := Lib.hid (Owp.of_below hb3)
          clear hb2 hb3 HS1
          generalize World.alloc w2 (.cells #[.int .i64 sx, .bool sy] 171) = w3 at HS3 HO3 ⊢
          have HB3 := Lib.hid (HBW.out w3 HO3.out)
          obtain ⟨x0, x1', x2, x3, xf⟩ := HB3.out.facts
          have ct := truth_any n1 w3
          rw [HTB.out] at ct
          go_cut [86] from 81 to 86 (fun v wx => v = .bool (sz || tb) ∧ SOk Γ w m ev PE wx ∧ Owp (MayT Γ) w1 wx)
          case first =>
            cases sz
            · go_wp2_with (first | (go_at_call 203; (with_reducible refine ct.mono ?_); rintro e w4 ⟨rfl, rfl⟩))
              go_meet
              case rel => exact ⟨rfl, HS3.out, HO3.out⟩
            · go_wp2_with fail
              go_meet
              case rel => exact ⟨rfl, HS3.out, HO3.out⟩
          case rest =>
            obtain ⟨rfl, hs4, ho4⟩ := hcut
            have HS4 := Lib.hid hs4
            have HO4 := Lib.hid ho4
            clear hs4 ho4 HS3 HO3 HB3 x0 x1' x2 x3 xf ct
            obtain ⟨T, hT⟩ : ∃ T, (sz || tb) = T := ⟨_, rfl⟩
            rw [hT] at HDUE ⊢
            clear hT
            have HB4 := Lib.hid (HBW.out wc HO4.out)
            obtain ⟨w4, hw4⟩ : ∃ w4, wc = w4 := ⟨_, rfl⟩
            rw [hw4] at HS4 HO4 HB4 ⊢
            clear hw4
            go_upto_if 86 with (fail)
            go_cut [] from 87 to 92 (fun wx => SOk Γ w m ev (PE ++ DU) wx ∧ Owp (MayT Γ) w4 wx)
            case first =>
              obtain ⟨x0, x1', x2, x3, xf⟩ := (HB4.out).facts
              cases T
              · have HXF : Hid (DU = []) := HDUE.out
                go_wp2_with fail
                go_meet
                case rel =>
                  rw [HXF.out, List.append_nil]
                  exact ⟨HS4.out, Owp.refl _ _⟩
              · have HXF : Hid (DU = [.bad 280 n1 p1]) := HDUE.out
                obtain ⟨-, -, -, -, c4, -, -, -⟩ := HS4.out.2.1.cells
                have hw2 := HW.out.2 k1 n1 y1 l1.length c1 p1 280 w4.drew
                have egw := HW.out.1
                go_upto_region 12 with (fail)
                go_still_tail 5, (by kernel_rfl)
                change wpList _ _ _ _ _ (World.drew w4)
                have HOa : Hid (Owp (MayT Γ) w4 w4.drew) := Lib.hid (Owp.of_below (Below.refl _ _).drew)
                have HSa : Hid (SOk Γ w m ev PE w4.drew) := Lib.hid ⟨HS4.out.1, HS4.out.2.1.same fun _ _ => rfl, HS4.out.2.2.trans HOa.out⟩
                generalize World.drew w4 = wa at *
                go_wp2_with fail
                go_at_fn Γ.wf
                refine hw2.mono ?_
                clear hw2 x0 x1' x2 x3 xf c4
                rintro e wb (⟨ha, rfl, hb⟩ | ⟨ha, hb, b, hbl, rfl, hf⟩)
                · have HOb := Lib.hid (HOa.out.below hb)
                  have HOK : Hid (SOk Γ w m ev (PE ++ DU) wb) := by
                    show SOk _ _ _ _ _ _
                    rw [HXF.out]
                    exact HSa.out.trans ⟨.inl ha, (HSa.out.2.1.below hb).badly _ _ _, Owp.of_below hb⟩
                  clear ha hb
                  go_wp2_with fail
                  go_meet
                  case rel => exact ⟨HOK.out, HOb.out⟩
                · refine ⟨rfl, .inr ?_⟩
                  rw [HTOT1.out, HXF.out]
                  exact SBad.left (SBad.right HSa.out ⟨ha, 280, n1, p1, b, rfl, hbl, rfl, hf, Owp.of_below hb⟩) _
            case rest =>
              obtain ⟨hs5, ho5⟩ := hcut
              have HS5 := Lib.hid hs5
              have HO5 := Lib.hid (HO4.out.trans ho5)
              have HB5 := Lib.hid (HBW.out wc HO5.out)
              clear hs5 ho5 HS4 HO4 HB4
              obtain ⟨x0, x1', x2, x3, xf⟩ := HB5.out.facts
              have cw := with_any (MayT Γ) ρi _ 0 n1 0 false (by decide) wc (HEN1.out.owp HO5.out) HS5.out.2.1.may
              go_wp2_with fail
              refine cw.mono ?_
              clear cw x0 x1' x2 x3 xf
              rintro e w6 ⟨u6, rfl, he6, hb6⟩
              have HE6 : Hid (EnvAt w6 (MayT Γ) (parV ρ1 (l0.take (i + 1))) u6) := by
                show EnvAt _ _ _ _
                rw [HNV.out]
                exact he6
              have HS6 : Hid (SOk Γ w m ev (DE ++ parE ρ1 (l0.take (i + 1))) w6) := by
                show SOk _ _ _ _ _ _
                rw [HEV.out, ← List.append_assoc, HPE.out]
                exact ⟨HS5.out.1, HS5.out.2.1.below hb6, HS5.out.2.2.below hb6⟩
              have HO6 := Lib.hid ((HOW1.out.trans HO5.out).below hb6)
              clear he6 hb6
              go_wp2_with fail
              go_roundg (gk - 1)
              case measure => omega
              case rel => exact ⟨i + 1, rfl, by omega, HE6.out, HS6.out, HO6.out⟩
        · have hlt' : ¬ (i : Int) < (L : Int) := by omega
          have htk : l0.take i = l0 := List.take_of_length_le (by have := HLL.out; omega)
          rw [htk] at HEN HOK
          clear htk
          have HBZ := Lib.hid (HAW.out wr (HO8.out.trans HOW.out))
          have HE9 := Lib.hid (HE3.out.owp HOW.out)
          obtain ⟨x0, x1', x2, x3, xf⟩ := HBZ.out.facts
          have HOWR := HOW
          clear HBZ HE3 HS8 HOW
          obtain ⟨k1, n1, l1, p1⟩ := x1
          obtain ⟨hok1, z0, z1, z3, y1, c1, z2, hk1⟩ := (HAT1.out.mono (fun _ h _ => h) (fun b hb hl => HOK.out.2.2.block b hl hb) : NdAt wr (fun b => ¬ MayT Γ b) (.mk k1 n1 l1 p1) B (o + 4))
          have hcat : DE ++ REST = (DE ++ parE ρ1 l0) ++ evSs l1 (none :: parV ρ1 l0) (m + 1) := by
            rw [← HREST.out]
            show DE ++ (parE ρ1 l0 ++ (evSs l1 (none :: parV ρ1 l0) (m + 1) ++ [])) = _
            rw [List.append_nil, List.append_assoc]
          have HCAT := Lib.hid hcat
          obtain ⟨PE, hPE⟩ : ∃ r, DE ++ parE ρ1 l0 = r := ⟨_, rfl⟩
          rw [hPE] at HOK HCAT
          clear hcat hPE
          have EA : m < 2 ^ 40 := by
            have := HWT.out
            omega
          have Qm1 : IntKind.i64.wrap ((m : Int) + 1) = (m : Int) + 1 := IntWalk.i64_in _ (by omega)
          obtain ⟨-, -, -, c3, -, -, -, cf⟩ := HOK.out.2.1.cells
          have HZ2 := Lib.hid z2
          have HK1 := Lib.hid hk1
          have HOK1 := Lib.hid hok1.ok
          clear z0 z1 z2 z3 hk1 hok1
          go_upto_region 19 with (fail)
          have HS9 := Lib.hid (⟨HOK.out.1, HOK.out.2.1.setIn (m + 1), HOK.out.2.2.trans (Owp.setIn _ _)⟩ : SOk Γ w (m + 1) ev PE (wr.setCell ⟨Γ.wb, 3, none⟩ (.int .i64 ((m : Int) + 1))))
          have HO9 : Hid (Owp (MayT Γ) wr (wr.setCell ⟨Γ.wb, 3, none⟩ (.int .i64 ((m : Int) + 1)))) := Lib.hid (Owp.setIn _ _)
          have HB9 := Lib.hid (HAW.out _ (HO8.out.trans (HOWR.out.trans HO9.out)))
          clear c3 cf x0 x1' x2 x3 xf HOK
          generalize (wr.setCell ⟨Γ.wb, 3, none⟩ (.int .i64 ((m : Int) + 1))) = w9 at HS9 HO9 HB9 ⊢
          obtain ⟨x0, x1', x2, x3, xf⟩ := HB9.out.facts
          have z2 := HO9.out.cell (p := ⟨B, o + 4 + 2, none⟩) HOK1.out HZ2.out
          have cb := HX.out w9 (m + 1) _ (parV ρ1 l0) y1 c1 _ (NdRow.mono (fun _ h _ => h) (fun b hb hl => HO9.out.block b hl hb) _ _ HK1.out) (HEN.out.owp HO9.out) HS9.out.2.1 (by
            have h1 := HWT.out
            have h2 := HWT2.out
            rw [wtN_mk k1] at h2
            show m + 1 + wtL l1 < _
            omega) (by
            have := HL.out
            rw [HCAT.out] at this
            simp only [List.length_append] at this ⊢
            show _ + (evSs l1 (none :: parV ρ1 l0) (m + 1)).length < _
            omega)
          rw [show (Nd.mk k1 n1 l1 p1).kids = l1 from rfl] at cb
          go_wp2_with fail
          refine cb.mono ?_
          clear cb x0 x1' x2 x3 xf z2
          rintro e w10 (⟨rfl, hok⟩ | hbad)
          · have AA := Lib.hid (SOk.trans HS9.out hok)
            have BA := Lib.hid (HO9.out.trans hok.2.2)
            obtain ⟨-, -, -, c3, -, -, -, cf⟩ := hok.2.1.cells
            have c3' : w10.cell? ⟨Γ.wb, 3, none⟩ = some (.int .i64 ((m : Int) + 1)) := c3
            have Qm2 : IntKind.i64.wrap ((m : Int) + 1 - 1) = (m : Int) := (IntWalk.i64_in _ (by omega)).trans (by omega)
            have Qm3 : IntKind.i64.wrap (m : Int) = (m : Int) := IntWalk.i64_in _ (by omega)
            clear hok c3 Qm1
            go_upto_region 21 with (fail)
            have CA := Lib.hid (⟨AA.out.1, AA.out.2.1.setIn m, AA.out.2.2.trans (Owp.setIn _ _)⟩ : SOk Γ w m ev _ (w10.setCell ⟨Γ.wb, 3, none⟩ (.int .i64 (m : Int))))
            have DA := Lib.hid (HE9.out.owp (BA.out.trans (Owp.setIn w10 (.int .i64 (m : Int)))))
            go_wp2_with fail
            go_ret
            refine .inl ⟨_, rfl, ?_, ?_⟩
            · show EnvAt _ _ (some (2, n, l0.length) :: ρ) _
              rw [HLL.out]
              exact DA.out
            · rw [HCAT.out]
              exact CA.out
          · have hb2 : SBad Γ w (DE ++ REST) e w10 := by
              rw [HCAT.out]
              exact SBad.right HS9.out hbad
            obtain ⟨ch, rfl⟩ := hbad.pan
            exact ⟨rfl, .inr hb2⟩
end Go.Proofs.YtpbkeamjdolpgaaGreatDoor
