/- The reference's rows, plainly: what is left to tell at the head of its loop. -/
import Derived.Test.YtpbkeamjdolpgaaGreatDoorTreeQa
namespace Go.Proofs.YtpbkeamjdolpgaaGreatDoor
open Go.RowKit Go.Lib

/-- What is left at the loop's head; E: the closing sign stands here. -/
def loopR (ts : List Tk) (L : Nat) (one : Nat → Res Nd) (e : List UInt8) (E b : Bool) (acc : List Nd) (f p : Nat) : Res (List Nd) :=
  if b then .bad p else if E then .ok acc (p + 1) else (one p).bind fun x q => rowM ts L one f e (acc ++ [x]) q
theorem loop_in (ts : List Tk) (L : Nat) (one : Nat → Res Nd) (e : List UInt8) (b : Bool) (f p : Nat) : Tot (rowG ts L one f e) b p = loopR ts L one e (!b && isT ts p e) b [] f p := by
  cases b
  · unfold loopR rowG
    rw [tot_go]
    cases isT ts p e <;> rfl
  · rfl
theorem loop_one {ts : List Tk} {L : Nat} {one : Nat → Res Nd} {e : List UInt8} {acc : List Nd} {f p q : Nat} {b : Bool} {x : Nd} (h : Mt (one p) b q x) : loopR ts L one e false false acc f p = Tot (rowM ts L one f e (acc ++ [x])) b q := by
  unfold loopR
  rw [if_neg (by decide), if_neg (by decide)]
  exact h.bind _
/-- Behind one: the closing sign, a comma, or a fault. -/
theorem loop_step {ts : List Tk} {L : Nat} {one : Nat → Res Nd} {e : List UInt8} {acc : List Nd} {f p q : Nat} {b : Bool} {x : Nd} (h : Mt (one p) b q x) (hne : loopR ts L one e false false acc f p ≠ .out) :
    ((!b && isT ts q e) = true → ∃ f', f = f' + 1 ∧ loopR ts L one e false false acc f p = loopR ts L one e true b (acc ++ [x]) f' q) ∧
    ((!b && isT ts q e) = false → ∀ b' r a, Mt (Tot (takeP ts L [44]) b q) b' r a → ∃ f', (b' = true ∨ f = f' + 1) ∧ loopR ts L one e false false acc f p = loopR ts L one e false b' (acc ++ [x]) f' r) := by
  rw [loop_one h] at hne ⊢
  cases b
  · rw [tot_go] at hne ⊢
    cases f with
    | zero => exact absurd rfl hne
    | succ f' =>
      refine ⟨fun hi => ⟨f', rfl, ?_⟩, fun hi b' r a ht => ⟨f', .inr rfl, ?_⟩⟩
      · have hi' : isT ts q e = true := by simpa using hi
        unfold rowM loopR
        rw [if_pos hi', if_neg (by decide), if_pos rfl]
      · have hi' : ¬ isT ts q e = true := by simpa using hi
        rw [tot_go] at ht
        rw [rowM, if_neg hi', ht.bind]
        unfold loopR Tot
        cases b' <;> rfl
  · refine ⟨fun hi => by simp at hi, fun _ b' r a ht => ?_⟩
    obtain ⟨rfl, rfl⟩ := ht
    exact ⟨f, .inl rfl, rfl⟩
/-- At the loop's end the closing sign is taken, or a fault has been told. -/
theorem loop_out {ts : List Tk} {L : Nat} {one : Nat → Res Nd} {e : List UInt8} {acc : List Nd} {f p : Nat} {E b : Bool} (hE : (!E && !b) = false) (hi : E = true → b = false → isT ts p e = true) {b' : Bool} {p' a : Nat} (ht : Mt (Tot (takeP ts L e) b p) b' p' a) :
    Mt (loopR ts L one e E b acc f p) b' p' acc := by
  cases b
  · cases E
    · simp at hE
    · have h1 := hi rfl rfl
      rw [tot_go, takeP, if_pos h1] at ht
      obtain ⟨rfl, rfl, _⟩ := ht
      exact ⟨rfl, rfl, rfl⟩
  · obtain ⟨rfl, rfl⟩ := ht
    exact ⟨rfl, rfl⟩
end Go.Proofs.YtpbkeamjdolpgaaGreatDoor
