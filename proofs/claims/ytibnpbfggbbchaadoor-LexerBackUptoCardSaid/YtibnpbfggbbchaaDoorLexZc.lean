/- The walk of LexerBack, a path at a time. -/
import Derived.Test.YtibnpbfggbbchaaDoorLexZb
import Derived.Test.YtibnpbfggbbchaaDoorLexN
namespace Go.Proofs.YtibnpbfggbbchaaDoor
open Go.RowKit Go.Lib

set_option maxHeartbeats 4000000 in
set_option maxRecDepth 100000 in
theorem back_yes_err (x : Option Addr) (n c : Nat) (s T : ByteArray) (w : World) (l1 : List Ta) (c1 : Calls Tryd.prog 18 #[.slice x n c] w fun e w' => e = .returned (.tuple #[.string T, .int .i64 0]) ∧ Below w.heap.size w w') (cT : ∀ W, Below w.heap.size w W → Calls Tryd.prog 13 #[.string T] W fun e w' => ∃ x k, e = .returned (.tuple #[.slice x n k, .nilIface]) ∧ Below W.heap.size W w' ∧ ARow w' x l1) (cS : ∀ W y k, Below w.heap.size w W → ARow W y l1 → Calls Tryd.prog 20 #[.slice y n k, .slice x n c] W fun e w' => e = .returned (.bool true) ∧ Below W.heap.size W w') (cE : ∀ W, Below w.heap.size w W → Calls Tryd.prog 13 #[.string s] W fun e w' => ∃ b, e = .returned (.tuple #[.slice none 0 0, .iface 32 (.pointer (some ⟨b, 0, none⟩))]) ∧ Below W.heap.size W w') (cK : ∀ W, Below w.heap.size w W → Calls Tryd.prog 12 #[] W fun e w' => e = .returned (.bool true) ∧ Below W.heap.size W w') :
    Calls Tryd.prog 8 #[.slice x n c, .string s] w fun e w' => e = .returned (.bool true) ∧ Below w.heap.size w w' := by
  go_enter Tryd.func8, Tryd.ntmps8
  go_wp2_with (first | (go_at_call 18; (with_reducible refine c1.mono ?_); rintro e w1 ⟨rfl, hb1⟩) | (go_at_call 13; (with_reducible refine (cT _ hb1).mono ?_); rintro e w2 ⟨x2, k2, rfl, hb2, ha2⟩) | (go_at_call 20; (with_reducible refine (cS _ x2 k2 (tr hb1 hb2) ha2).mono ?_); rintro e w3 ⟨rfl, hb3⟩) | (go_at_call 13; (with_reducible refine (cE _ (tr (tr hb1 hb2) hb3)).mono ?_); rintro e w4 ⟨b4, rfl, hb4⟩) | (go_at_call 12; (with_reducible refine (cK _ (tr (tr (tr hb1 hb2) hb3) hb4)).mono ?_); rintro e w9 ⟨rfl, hb9⟩))
  go_ret
  exact ⟨rfl, tr (tr (tr (tr hb1 hb2) hb3) hb4) hb9⟩

set_option maxHeartbeats 4000000 in
set_option maxRecDepth 100000 in
theorem back_yes_long (x : Option Addr) (n c : Nat) (s T : ByteArray) (w : World) (l1 : List Ta) (m : Nat) (U : ByteArray) (l2 : List Ta) (c1 : Calls Tryd.prog 18 #[.slice x n c] w fun e w' => e = .returned (.tuple #[.string T, .int .i64 0]) ∧ Below w.heap.size w w') (cT : ∀ W, Below w.heap.size w W → Calls Tryd.prog 13 #[.string T] W fun e w' => ∃ x k, e = .returned (.tuple #[.slice x n k, .nilIface]) ∧ Below W.heap.size W w' ∧ ARow w' x l1) (cS : ∀ W y k, Below w.heap.size w W → ARow W y l1 → Calls Tryd.prog 20 #[.slice y n k, .slice x n c] W fun e w' => e = .returned (.bool true) ∧ Below W.heap.size W w') (cM : ∀ W, Below w.heap.size w W → Calls Tryd.prog 13 #[.string s] W fun e w' => ∃ x k, e = .returned (.tuple #[.slice x m k, .nilIface]) ∧ Below W.heap.size W w' ∧ ARow w' x l2) (c2 : ∀ W y k, Below w.heap.size w W → ARow W y l2 → Calls Tryd.prog 18 #[.slice y m k] W fun e w' => e = .returned (.tuple #[.string U, .int .i64 3]) ∧ Below W.heap.size W w') (cK : ∀ W, Below w.heap.size w W → Calls Tryd.prog 12 #[] W fun e w' => e = .returned (.bool true) ∧ Below W.heap.size W w') :
    Calls Tryd.prog 8 #[.slice x n c, .string s] w fun e w' => e = .returned (.bool true) ∧ Below w.heap.size w w' := by
  go_enter Tryd.func8, Tryd.ntmps8
  go_wp2_with (first | (go_at_call 18; (with_reducible refine c1.mono ?_); rintro e w1 ⟨rfl, hb1⟩) | (go_at_call 13; (with_reducible refine (cT _ hb1).mono ?_); rintro e w2 ⟨x2, k2, rfl, hb2, ha2⟩) | (go_at_call 20; (with_reducible refine (cS _ x2 k2 (tr hb1 hb2) ha2).mono ?_); rintro e w3 ⟨rfl, hb3⟩) | (go_at_call 13; (with_reducible refine (cM _ (tr (tr hb1 hb2) hb3)).mono ?_); rintro e w4 ⟨x4, k4, rfl, hb4, ha4⟩) | (go_at_call 18; (with_reducible refine (c2 _ x4 k4 (tr (tr (tr hb1 hb2) hb3) hb4) ha4).mono ?_); rintro e w5 ⟨rfl, hb5⟩) | (go_at_call 12; (with_reducible refine (cK _ (tr (tr (tr (tr hb1 hb2) hb3) hb4) hb5)).mono ?_); rintro e w9 ⟨rfl, hb9⟩))
  go_ret
  exact ⟨rfl, tr (tr (tr (tr (tr hb1 hb2) hb3) hb4) hb5) hb9⟩

set_option maxHeartbeats 4000000 in
set_option maxRecDepth 100000 in
theorem back_yes_ok (x : Option Addr) (n c : Nat) (s T : ByteArray) (w : World) (l1 : List Ta) (m : Nat) (U : ByteArray) (l2 : List Ta) (l3 : List Ta) (c1 : Calls Tryd.prog 18 #[.slice x n c] w fun e w' => e = .returned (.tuple #[.string T, .int .i64 0]) ∧ Below w.heap.size w w') (cT : ∀ W, Below w.heap.size w W → Calls Tryd.prog 13 #[.string T] W fun e w' => ∃ x k, e = .returned (.tuple #[.slice x n k, .nilIface]) ∧ Below W.heap.size W w' ∧ ARow w' x l1) (cS : ∀ W y k, Below w.heap.size w W → ARow W y l1 → Calls Tryd.prog 20 #[.slice y n k, .slice x n c] W fun e w' => e = .returned (.bool true) ∧ Below W.heap.size W w') (cM : ∀ W, Below w.heap.size w W → Calls Tryd.prog 13 #[.string s] W fun e w' => ∃ x k, e = .returned (.tuple #[.slice x m k, .nilIface]) ∧ Below W.heap.size W w' ∧ ARow w' x l2) (c2 : ∀ W y k, Below w.heap.size w W → ARow W y l2 → Calls Tryd.prog 18 #[.slice y m k] W fun e w' => e = .returned (.tuple #[.string U, .int .i64 0]) ∧ Below W.heap.size W w') (cN : ∀ W, Below w.heap.size w W → Calls Tryd.prog 13 #[.string U] W fun e w' => ∃ x k, e = .returned (.tuple #[.slice x m k, .nilIface]) ∧ Below W.heap.size W w' ∧ ARow w' x l3) (cQ : ∀ W y z k j, ARow W y l2 → ARow W z l3 → Calls Tryd.prog 20 #[.slice y m k, .slice z m j] W fun e w' => e = .returned (.bool true) ∧ Below W.heap.size W w') (cK : ∀ W, Below w.heap.size w W → Calls Tryd.prog 12 #[] W fun e w' => e = .returned (.bool true) ∧ Below W.heap.size W w') :
    Calls Tryd.prog 8 #[.slice x n c, .string s] w fun e w' => e = .returned (.bool true) ∧ Below w.heap.size w w' := by
  go_enter Tryd.func8, Tryd.ntmps8
  go_wp2_with (first | (go_at_call 18; (with_reducible refine c1.mono ?_); rintro e w1 ⟨rfl, hb1⟩) | (go_at_call 13; (with_reducible refine (cT _ hb1).mono ?_); rintro e w2 ⟨x2, k2, rfl, hb2, ha2⟩) | (go_at_call 20; (with_reducible refine (cS _ x2 k2 (tr hb1 hb2) ha2).mono ?_); rintro e w3 ⟨rfl, hb3⟩) | (go_at_call 13; (with_reducible refine (cM _ (tr (tr hb1 hb2) hb3)).mono ?_); rintro e w4 ⟨x4, k4, rfl, hb4, ha4⟩) | (go_at_call 18; (with_reducible refine (c2 _ x4 k4 (tr (tr (tr hb1 hb2) hb3) hb4) ha4).mono ?_); rintro e w5 ⟨rfl, hb5⟩) | (go_at_call 13; (with_reducible refine (cN _ (tr (tr (tr (tr hb1 hb2) hb3) hb4) hb5)).mono ?_); rintro e w6 ⟨x6, k6, rfl, hb6, ha6⟩) | (go_at_call 20; (with_reducible refine (cQ _ x4 x6 k4 k6 ((ha4.below hb5).below hb6) ha6).mono ?_); rintro e w7 ⟨rfl, hb7⟩) | (go_at_call 12; (with_reducible refine (cK _ (tr (tr (tr (tr (tr (tr hb1 hb2) hb3) hb4) hb5) hb6) hb7)).mono ?_); rintro e w9 ⟨rfl, hb9⟩))
  go_ret
  exact ⟨rfl, tr (tr (tr (tr (tr (tr (tr hb1 hb2) hb3) hb4) hb5) hb6) hb7) hb9⟩

set_option maxHeartbeats 4000000 in
set_option maxRecDepth 100000 in
theorem back_no_err (x : Option Addr) (n c : Nat) (s T : ByteArray) (w : World) (E : Int) (Q : (E == 0) = false) (c1 : Calls Tryd.prog 18 #[.slice x n c] w fun e w' => e = .returned (.tuple #[.string T, .int .i64 E]) ∧ Below w.heap.size w w') (cE : ∀ W, Below w.heap.size w W → Calls Tryd.prog 13 #[.string s] W fun e w' => ∃ b, e = .returned (.tuple #[.slice none 0 0, .iface 32 (.pointer (some ⟨b, 0, none⟩))]) ∧ Below W.heap.size W w') (cK : ∀ W, Below w.heap.size w W → Calls Tryd.prog 12 #[] W fun e w' => e = .returned (.bool true) ∧ Below W.heap.size W w') :
    Calls Tryd.prog 8 #[.slice x n c, .string s] w fun e w' => e = .returned (.bool true) ∧ Below w.heap.size w w' := by
  go_enter Tryd.func8, Tryd.ntmps8
  go_wp2_with (first | (go_at_call 18; (with_reducible refine c1.mono ?_); rintro e w1 ⟨rfl, hb1⟩) | (go_at_call 13; (with_reducible refine (cE _ hb1).mono ?_); rintro e w4 ⟨b4, rfl, hb4⟩) | (go_at_call 12; (with_reducible refine (cK _ (tr hb1 hb4)).mono ?_); rintro e w9 ⟨rfl, hb9⟩))
  go_ret
  exact ⟨rfl, tr (tr hb1 hb4) hb9⟩

set_option maxHeartbeats 4000000 in
set_option maxRecDepth 100000 in
theorem back_no_long (x : Option Addr) (n c : Nat) (s T : ByteArray) (w : World) (m : Nat) (U : ByteArray) (l2 : List Ta) (E : Int) (Q : (E == 0) = false) (c1 : Calls Tryd.prog 18 #[.slice x n c] w fun e w' => e = .returned (.tuple #[.string T, .int .i64 E]) ∧ Below w.heap.size w w') (cM : ∀ W, Below w.heap.size w W → Calls Tryd.prog 13 #[.string s] W fun e w' => ∃ x k, e = .returned (.tuple #[.slice x m k, .nilIface]) ∧ Below W.heap.size W w' ∧ ARow w' x l2) (c2 : ∀ W y k, Below w.heap.size w W → ARow W y l2 → Calls Tryd.prog 18 #[.slice y m k] W fun e w' => e = .returned (.tuple #[.string U, .int .i64 3]) ∧ Below W.heap.size W w') (cK : ∀ W, Below w.heap.size w W → Calls Tryd.prog 12 #[] W fun e w' => e = .returned (.bool true) ∧ Below W.heap.size W w') :
    Calls Tryd.prog 8 #[.slice x n c, .string s] w fun e w' => e = .returned (.bool true) ∧ Below w.heap.size w w' := by
  go_enter Tryd.func8, Tryd.ntmps8
  go_wp2_with (first | (go_at_call 18; (with_reducible refine c1.mono ?_); rintro e w1 ⟨rfl, hb1⟩) | (go_at_call 13; (with_reducible refine (cM _ hb1).mono ?_); rintro e w4 ⟨x4, k4, rfl, hb4, ha4⟩) | (go_at_call 18; (with_reducible refine (c2 _ x4 k4 (tr hb1 hb4) ha4).mono ?_); rintro e w5 ⟨rfl, hb5⟩) | (go_at_call 12; (with_reducible refine (cK _ (tr (tr hb1 hb4) hb5)).mono ?_); rintro e w9 ⟨rfl, hb9⟩))
  go_ret
  exact ⟨rfl, tr (tr (tr hb1 hb4) hb5) hb9⟩

set_option maxHeartbeats 4000000 in
set_option maxRecDepth 100000 in
theorem back_no_ok (x : Option Addr) (n c : Nat) (s T : ByteArray) (w : World) (m : Nat) (U : ByteArray) (l2 : List Ta) (l3 : List Ta) (E : Int) (Q : (E == 0) = false) (c1 : Calls Tryd.prog 18 #[.slice x n c] w fun e w' => e = .returned (.tuple #[.string T, .int .i64 E]) ∧ Below w.heap.size w w') (cM : ∀ W, Below w.heap.size w W → Calls Tryd.prog 13 #[.string s] W fun e w' => ∃ x k, e = .returned (.tuple #[.slice x m k, .nilIface]) ∧ Below W.heap.size W w' ∧ ARow w' x l2) (c2 : ∀ W y k, Below w.heap.size w W → ARow W y l2 → Calls Tryd.prog 18 #[.slice y m k] W fun e w' => e = .returned (.tuple #[.string U, .int .i64 0]) ∧ Below W.heap.size W w') (cN : ∀ W, Below w.heap.size w W → Calls Tryd.prog 13 #[.string U] W fun e w' => ∃ x k, e = .returned (.tuple #[.slice x m k, .nilIface]) ∧ Below W.heap.size W w' ∧ ARow w' x l3) (cQ : ∀ W y z k j, ARow W y l2 → ARow W z l3 → Calls Tryd.prog 20 #[.slice y m k, .slice z m j] W fun e w' => e = .returned (.bool true) ∧ Below W.heap.size W w') (cK : ∀ W, Below w.heap.size w W → Calls Tryd.prog 12 #[] W fun e w' => e = .returned (.bool true) ∧ Below W.heap.size W w') :
    Calls Tryd.prog 8 #[.slice x n c, .string s] w fun e w' => e = .returned (.bool true) ∧ Below w.heap.size w w' := by
  go_enter Tryd.func8, Tryd.ntmps8
  go_wp2_with (first | (go_at_call 18; (with_reducible refine c1.mono ?_); rintro e w1 ⟨rfl, hb1⟩) | (go_at_call 13; (with_reducible refine (cM _ hb1).mono ?_); rintro e w4 ⟨x4, k4, rfl, hb4, ha4⟩) | (go_at_call 18; (with_reducible refine (c2 _ x4 k4 (tr hb1 hb4) ha4).mono ?_); rintro e w5 ⟨rfl, hb5⟩) | (go_at_call 13; (with_reducible refine (cN _ (tr (tr hb1 hb4) hb5)).mono ?_); rintro e w6 ⟨x6, k6, rfl, hb6, ha6⟩) | (go_at_call 20; (with_reducible refine (cQ _ x4 x6 k4 k6 ((ha4.below hb5).below hb6) ha6).mono ?_); rintro e w7 ⟨rfl, hb7⟩) | (go_at_call 12; (with_reducible refine (cK _ (tr (tr (tr (tr hb1 hb4) hb5) hb6) hb7)).mono ?_); rintro e w9 ⟨rfl, hb9⟩))
  go_ret
  exact ⟨rfl, tr (tr (tr (tr (tr hb1 hb4) hb5) hb6) hb7) hb9⟩

end Go.Proofs.YtibnpbfggbbchaaDoor
