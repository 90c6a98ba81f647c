/- errors.Is of a fault and its code; the reference's Same; the statements' Told. -/
import Derived.Test.YtibnpbfggbbchaaDoorLexR
import Derived.Test.YtibnpbfggbbchaaDoorTokCells
namespace Go.Proofs.YtibnpbfggbbchaaDoor
open Go.RowKit Go.Lib Go.Extern.Stop Go.Stop Go.Extern

theorem run_eql_iface_int {P : Program} (w : World) {ti tp : TypeId} {ms : Array (String × TypeId)} {k : IntKind} {i : TypeInfo} (a : Int)
    (hi : P.underlying ti = some (.interface ms)) (hp : P.underlying tp = some (.int k)) (hinfo : P.info? tp = some i) (hcomp : i.comparable = true) :
    (binOp .eql ti (.iface tp (.int k a)) (.iface tp (.int k a))).run P w = .ok (.bool true) w := by
  have h : ∀ d : Nat, (Op.equalIn (d + 2) ti (.iface tp (.int k a)) (.iface tp (.int k a))).run P w = .ok true w := fun d => by
    simp [Op.equalIn, run_underlying hi, run_underlying hp, typeInfo, hinfo, hcomp]
  simp only [binOp]
  simp [Op.equal, Op.maxDepth, h 9998]

theorem Tryd.isTypeOf (v : Value) (w : World) : (Extern.ReflectliteType.typeOf #[.iface 37 v]).run Tryd.prog w = .ok (.iface 92 (.agg #[.pointer (some ⟨7, 37, none⟩)])) w := by kernel_rfl
theorem Tryd.cmpEntry : ∃ M : Array Value → Sem Value, (∀ args w, (callFunc 91 args).run Tryd.prog w = ((M args).run Tryd.prog w).andThen fun v w' => .ok (.value v) w') ∧
    ∀ w, (M #[.agg #[.pointer (some ⟨7, 37, none⟩)]]).run Tryd.prog w = .ok (.bool true) w :=
  ⟨Extern.ReflectliteType.method fun t => do Extern.Rtype.noPackHeld "Comparable" t; pure (.bool (← typeInfo t).comparable),
    @run_callFunc_extern Tryd.prog 91 _ _ Tryd.func91 (by kernel_rfl) (by kernel_rfl) (by kernel_rfl) (by kernel_rfl), fun w => by kernel_rfl⟩
theorem Tryd.isMethodComparable (v : Value) (w : World) : (Go.method 254 92 v "Comparable").run Tryd.prog w = .ok (91, v) w := by kernel_rfl
theorem Tryd.isComp : (Tryd.prog.info? 37).map (·.comparable) = some true := by kernel_rfl
theorem Tryd.noIsF (v : Value) (xT : TypeId) (w : World) : (Instr.typeAssert (.iface 32 v) xT 109 true).run Tryd.prog w = .ok (.tuple #[.nilIface, .bool false]) w := run_typeAssert_lacksB Tryd.underlying109 (by kernel_rfl) (by kernel_rfl) v xT w
theorem Tryd.hasUnwrapF (v : Value) (xT : TypeId) (w : World) : (Instr.typeAssert (.iface 32 v) xT 99 true).run Tryd.prog w = .ok (.tuple #[.iface 32 v, .bool true]) w := run_typeAssert_hasB Tryd.underlying99 (by kernel_rfl) v xT w
theorem Tryd.methodUnwrap (v : Value) (w : World) : (Go.method 254 32 v "Unwrap").run Tryd.prog w = .ok (83, v) w := by kernel_rfl

set_option maxHeartbeats 4000000 in
/-- errors.Is(a fault, its code). -/
theorem is_fault (b : Nat) (c : Int) (w : World) (h1 : w.cell? ⟨b, 0, none⟩ = some (.int .i64 c)) :
    Calls Tryd.prog 28 #[.iface 32 (.pointer (some ⟨b, 0, none⟩)), .iface 37 (.int .i64 c)] w fun e w' => e = .returned (.bool true) ∧ w = w' := by
  obtain ⟨i, hi, hcmp⟩ := Option.map_eq_some_iff.1 Tryd.isComp
  have h8 := @run_callFunc_extern Tryd.prog 47 _ Extern.ReflectliteType.typeOf Tryd.func47 (by kernel_rfl) (by kernel_rfl) (by kernel_rfl) (by kernel_rfl)
  obtain ⟨M, h32, cT⟩ := Tryd.cmpEntry
  have tT := Tryd.isTypeOf
  have mR := Tryd.isMethodComparable
  have nE := Tryd.noIsF
  have uE := Tryd.hasUnwrapF
  have mU := Tryd.methodUnwrap
  have heq := run_eql_iface_int (P := Tryd.prog) w c Tryd.underlying26 Tryd.underlying37 hi hcmp
  have hty := run_eql_iface_types (P := Tryd.prog) 32 37 (.pointer (some ⟨b, 0, none⟩)) (.int .i64 c) Tryd.underlying26 (by decide) w
  clear hi hcmp
  go_enter Tryd.func28, Tryd.ntmps28
  go_wp2
  refine wp_loop_rounds 2 ?_
  rw [rounds_succ]
  go_wp2
  rw [rounds_succ]
  go_wp2
  go_ret
  exact ⟨rfl, rfl⟩

/-- A slice of tokens as a world holds it. -/
def TokRow (w : World) (x : Option Addr) (ts : List Tk) : Prop :=
  ∀ i u, ts[i]? = some u → ∃ g, x = some ⟨g, 0, none⟩ ∧ w.cell? ⟨g, i * 3, none⟩ = some (.int .i64 u.1) ∧ w.cell? ⟨g, i * 3 + 1, none⟩ = some (.string ⟨u.2.1.toArray⟩) ∧ w.cell? ⟨g, i * 3 + 2, none⟩ = some (.int .i64 u.2.2)
theorem TokRow.below {w w' : World} {x : Option Addr} {ts : List Tk} (h : TokRow w x ts) (hb : Below w.heap.size w w') : TokRow w' x ts := by
  intro i u hu
  obtain ⟨g, h1, h2, h3, h4⟩ := h i u hu
  have hg : g < w.heap.size := World.block_lt_of_cell? w _ h2
  exact ⟨g, h1, (hb.cell (p := ⟨g, i * 3, none⟩) hg).trans h2, (hb.cell (p := ⟨g, i * 3 + 1, none⟩) hg).trans h3, (hb.cell (p := ⟨g, i * 3 + 2, none⟩) hg).trans h4⟩
theorem tokRow_own {w : World} {base : Nat} {e : TypeId} {x : Option Addr} {n cap : Nat} {ts : List Tk} (h : w.ownsRow base e 3 (.slice x n cap) ts.length (tkFlat ts)) : TokRow w x ts := by
  intro i u hu
  have hi : i < ts.length := (List.getElem?_eq_some_iff.1 hu).1
  obtain ⟨g, c, h1, _, h2, h3⟩ := own_some h (by omega)
  have hf := tkFlat_at ts i u hu
  cases h1
  exact ⟨g, rfl, (h3 _ (by omega)).trans hf.1, (h3 _ (by omega)).trans hf.2.1, (h3 _ (by omega)).trans hf.2.2⟩

set_option maxHeartbeats 4000000 in
set_option maxRecDepth 100000 in
/-- Same of two slices that hold the same tokens. -/
theorem same_eq (ts : List Tk) (xa xb : Option Addr) (ca cb : Nat) (w : World) (hn : ts.length ≤ 4096) (ha : TokRow w xa ts) (hb : TokRow w xb ts) :
    Calls Tryd.prog 16 #[.slice xa ts.length ca, .slice xb ts.length cb, .bool true] w fun e w' => e = .returned (.bool true) ∧ Below w.heap.size w w' := by
  have HA := Lib.hid ha
  have HB := Lib.hid hb
  clear ha hb
  go_enter Tryd.func16, Tryd.ntmps16
  go_wp2_with fail
  go_loopw [7] (fun v wx => ∃ i : Nat, v = .int .i64 i ∧ i ≤ ts.length ∧ Below w.heap.size w wx) (fun v _ => ts.length - (intOf v).toNat)
  case atStart => exact ⟨0, rfl, Nat.zero_le _, Below.refl _ _⟩
  case round =>
    obtain ⟨i, rfl, hi, hbw⟩ := hrel
    by_cases hlt : i < ts.length
    · obtain ⟨u, hu⟩ : ∃ u, ts[i]? = some u := ⟨ts[i], List.getElem?_eq_getElem hlt⟩
      obtain ⟨ga, rfl, k0, k1, k2⟩ := (HA.out.below hbw) i u hu
      obtain ⟨gb, rfl, j0, j1, j2⟩ := (HB.out.below hbw) i u hu
      clear hu
      go_wp2_with fail
      go_quiet (fail)
      go_wp2
      go_roundw
      case rel => exact ⟨i + 1, by go_num, by omega, bdn hbw _⟩
      case measure => simp [intOf]; omega
    · go_wp2
      go_ret
      exact ⟨rfl, hbw⟩
end Go.Proofs.YtibnpbfggbbchaaDoor
