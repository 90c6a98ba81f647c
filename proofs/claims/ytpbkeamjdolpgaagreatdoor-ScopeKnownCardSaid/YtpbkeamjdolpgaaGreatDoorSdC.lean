/- What the Scope rows' statements ask: Is. -/
import Derived.Test.YtpbkeamjdolpgaaGreatDoorS06
namespace Go.Proofs.YtpbkeamjdolpgaaGreatDoor
open Go.RowKit Go.Lib

theorem Tryz.isErrno (v : Value) (w : World) : (Instr.typeAssert (.iface 30 v) 36 30 true).run Tryz.prog w = .ok (.tuple #[v, .bool true]) w := by kernel_rfl
set_option maxHeartbeats 4000000 in
set_option maxRecDepth 100000 in
theorem is_ok (w : World) : Calls Tryz.prog 43 #[.nilIface, .int .i64 0, .pointer none] w fun e w' => e = .returned (.bool true) ∧ Below w.heap.size w w' := by
  go_enter Tryz.func43, Tryz.ntmps43
  go_wp2_with fail
  go_ret
  exact ⟨rfl, Below.refl _ _⟩
set_option maxHeartbeats 4000000 in
set_option maxRecDepth 100000 in
theorem is_code (c : Int) (hc : c ≠ 0) (w : World) : Calls Tryz.prog 43 #[.iface 30 (.int .i64 c), .int .i64 c, .pointer none] w fun e w' => e = .returned (.bool true) ∧ Below w.heap.size w w' := by
  have hTA := Tryz.isErrno
  have Q : (c == 0) = false := beq_eq_false_iff_ne.2 hc
  clear hc
  go_enter Tryz.func43, Tryz.ntmps43
  go_wp2_with fail
  go_ret
  exact ⟨rfl, Below.refl _ _⟩
set_option maxHeartbeats 4000000 in
set_option maxRecDepth 100000 in
theorem is_hit (code c p : Int) (T : ByteArray) (b1 b2 : Nat) (w : World) (hE : GlE w) (h1 : w.heap[b1]? = some (.cells #[.int .i64 c, .int .i64 p, .string T] 61 (0, 0))) (h2 : w.heap[b2]? = some (.cells #[.int .i64 c, .int .i64 p, .string T] 61 (0, 0))) :
    Calls Tryz.prog 43 #[.iface 23 (.pointer (some ⟨b1, 0, none⟩)), .int .i64 code, .pointer (some ⟨b2, 0, none⟩)] w fun e w' => e = .returned (.bool true) ∧ Below w.heap.size w w' := by
  have cT := stold_hit c p T b1 b2 w hE h1 h2
  clear hE h1 h2
  go_enter Tryz.func43, Tryz.ntmps43
  go_wp2_with fail
  refine cT.mono ?_
  rintro e w1 ⟨rfl, hb1⟩
  go_wp2_with fail
  go_ret
  exact ⟨rfl, hb1⟩
end Go.Proofs.YtpbkeamjdolpgaaGreatDoor
