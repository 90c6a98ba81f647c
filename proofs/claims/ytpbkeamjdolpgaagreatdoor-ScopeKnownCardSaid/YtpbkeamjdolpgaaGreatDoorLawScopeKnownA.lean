/- The chapter's examples: the law ScopeKnown returns true. Conditions: the row's own, and that the listed variables of Go's library and errors.errorType are as the program's text lays them (the card ties them). -/
import Derived.Test.YtpbkeamjdolpgaaGreatDoorSdF
import Derived.Test.YtpbkeamjdolpgaaGreatDoorSdK
import Derived.Test.YtpbkeamjdolpgaaGreatDoorCards
import Derived.Test.YtpbkeamjdolpgaaGreatDoorTie
import Derived.SevenTiedAt
namespace Go.Proofs.YtpbkeamjdolpgaaGreatDoor
open Go.ChangeShapes Go.WideShapes Go.RowKit Go.Lib Go.ChangeAt
open Go.ChangeMaps (open_string shut_string)

set_option maxRecDepth 100000 in
theorem lawScopeKnown_lifted (os : Os) (started : os.Started) (H : Type) (enc : TypeId × Value → H) :
    ReturnsInHanded {} Tryz.checked os 12 .any (fun w args => (Rows.scopeKnownSpec.pre enc Tryz.prog Tryz.f12 [] false w args ∧ laidMetH Tryz.prog seatLaid w) ∧ sizedMet enc Tryz.prog Tryz.f12 (OpenSpec.ofChange Rows.scopeKnownSpec) false w args)
      (Rows.scopeKnownSpec.post enc Tryz.prog Tryz.f12 false true false false) := by
  refine returnsInHanded_of_change_and (C := Tryz.checked) (X := fun w _ => laidMetH Tryz.prog seatLaid w) (fun _ _ _ hh h => h.of_heap hh) s_own started (by kernel_rfl) Tryz.func12
    (ChangeSpec.witness_shaped (enc := enc) (C := Tryz.checked) (os := os) (X := fun w _ => laidMetH Tryz.prog seatLaid w) false (seatWorld os) #[] 8 (seatWorld_os os) (seatWorld_shaped os #[]) (by kernel_rfl) (by kernel_rfl) (by kernel_rfl) (seatWorld_call os #[])) ?_
  intro W base args ds gs before hval0 hW _ hsz0 hL _
  have hval : ∀ (j : Nat) t v, Tryz.f12.params[j]? = some t → args[j]? = some v → Value.okWide Tryz.prog W .any base t v := hval0
  have hW' := hW
  obtain ⟨p, q, hA0, hV, rfl, _, _⟩ := hW
  have hA : DataW.TrodAll enc Tryz.prog W 0 (fun _ => true) true Tryz.f12.params.toList args.toList ds p := hA0
  rw [Tryz.params12] at hA hval
  obtain ⟨rfl, rfl, rfl⟩ := trodAll_none hA
  obtain ⟨rfl, rfl⟩ := trodVars_none hV
  refine (scopeKnown_any W (glT_of_laid hL)).mono fun e W' ⟨he, hb⟩ => ?_
  subst he
  exact ⟨_, rfl, _, _, _, [], _, [], hW', trodAll_mk1 (shut_bool Tryz.underlying4 _), trodAll_mk0, rfl, hb.frame _, fun h => by cases h⟩
end Go.Proofs.YtpbkeamjdolpgaaGreatDoor
