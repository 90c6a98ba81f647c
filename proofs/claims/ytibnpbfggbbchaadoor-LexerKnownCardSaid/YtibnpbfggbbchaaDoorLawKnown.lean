/- The chapter's examples and bounds hold: the closed law LexerKnown returns true. Conditions: the listed variables of Go's library and errors.errorType are as the program's text lays them (the card ties them). -/
import Derived.Test.YtibnpbfggbbchaaDoorFr
import Derived.Test.YtibnpbfggbbchaaDoorLexKb
import Derived.Test.YtibnpbfggbbchaaDoorCards
import Derived.Test.YtibnpbfggbbchaaDoorTie
import Derived.SevenTiedAt
namespace Go.Proofs.YtibnpbfggbbchaaDoor
open Go.ChangeShapes Go.WideShapes Go.RowKit Go.Lib Go.ChangeAt

theorem lawLexerKnown_walk (w : World) (hG : Gl w) (hE : GlE w) :
    Calls Tryd.prog 9 #[] w fun e w' => e = .returned (.bool true) ∧ Below w.heap.size w w' := known_any w hG hE
set_option maxRecDepth 100000 in
theorem lawLexerKnown_lifted (os : Os) (started : os.Started) (H : Type) (enc : TypeId × Value → H) :
    ReturnsInHanded {} Tryd.checked os 9 .any (fun w args => (Rows.lexerKnownSpec.pre enc Tryd.prog Tryd.f9 [] false w args ∧ laidMetH Tryd.prog seatLaid w) ∧ sizedMet enc Tryd.prog Tryd.f9 (OpenSpec.ofChange Rows.lexerKnownSpec) false w args)
      (Rows.lexerKnownSpec.post enc Tryd.prog Tryd.f9 false true false false) := by
  refine returnsInHanded_of_change_and (C := Tryd.checked) (X := fun w _ => laidMetH Tryd.prog seatLaid w) (fun _ _ _ hh h => h.of_heap hh) s_own started (by kernel_rfl) Tryd.func9
    (ChangeSpec.witness_shaped (enc := enc) (C := Tryd.checked) (os := os) (X := fun w _ => laidMetH Tryd.prog seatLaid w) false (seatWorld os) #[] 8 (seatWorld_os os) (seatWorld_shaped os #[]) (by kernel_rfl) (by kernel_rfl) (by kernel_rfl) (seatWorld_call os #[])) ?_
  intro W base args ds gs before hval0 hW _ hsz0 hL _
  have hval : ∀ (j : Nat) t v, Tryd.f9.params[j]? = some t → args[j]? = some v → Value.okWide Tryd.prog W .any base t v := hval0
  have hW' := hW
  obtain ⟨p, q, hA0, hV, rfl, _, _⟩ := hW
  have hA : DataW.TrodAll enc Tryd.prog W 0 (fun _ => true) true Tryd.f9.params.toList args.toList ds p := hA0
  rw [Tryd.params9] at hA hval
  obtain ⟨rfl, rfl, rfl⟩ := trodAll_none hA
  obtain ⟨rfl, rfl⟩ := trodVars_none hV
  refine (lawLexerKnown_walk W (gl_of_laid hL) (glE_of_laid hL)).mono fun e W' ⟨he, hb⟩ => ?_
  subst he
  exact ⟨_, rfl, _, _, _, [], [], [], hW', trodAll_mk1 (shut_bool Tryd.underlying4 _), trodAll_mk0, rfl, hb.frame _, fun h => by cases h⟩

theorem lawLexerKnown_holds : Rows.LexerKnownSaid :=
  OpenClaim.holds_of_wide 9 Tryd.f9 rfl rfl rfl rfl rfl rfl rfl ⟨rfl, rfl, rfl, rfl, rfl⟩ rfl rfl rfl rfl rfl (by kernel_rfl) Tryd.func9 (by kernel_rfl)
    (of_decide_eq_true (by kernel_rfl)) (by unfold Func.isWrapper; rw [if_neg (of_decide_eq_false (by kernel_rfl))]; exact ⟨rfl, rfl⟩)
    (fun os started H enc _ => lawLexerKnown_lifted os started H enc)
theorem lawLexerKnown_card : Rows.LexerKnownCardSaid :=
  Claim7.holds_tied_plain_at .later [] _ _ _ _ lawLexerKnown_holds (fun _ h => by cases h) (by kernel_rfl) (fun _ h => by cases h) lexerKnown_row_tie rfl ⟨rfl, rfl⟩ (by kernel_rfl) rfl
    (fun f fn hf hfn => by
      obtain rfl : f = 9 := Option.some.inj ((show Tryd.prog.funcNamed "chamfer/chamferlaw26.LexerKnown" = some 9 by kernel_rfl).symm.trans hf) |>.symm
      obtain rfl : fn = Tryd.f9 := (Option.some.inj (Tryd.func9.symm.trans hfn)).symm
      exact ⟨by kernel_rfl, fun j t ht => by
        rw [Tryd.params9] at ht
        simp at ht⟩)
    (by kernel_rfl)
#print axioms lawLexerKnown_card
end Go.Proofs.YtibnpbfggbbchaaDoor
