/- For every text lexer.Name says what the reference's Name says, and the closed check holds: the law LexerNames returns true. Conditions: the listed variables of Go's library and errors.errorType are as the program's text lays them (the card ties them). -/
import Derived.Test.YtibnpbfggbbchaaDoorFr
import Derived.Test.YtibnpbfggbbchaaDoorCards
import Derived.Test.YtibnpbfggbbchaaDoorTie
import Derived.SevenTiedAt
namespace Go.Proofs.YtibnpbfggbbchaaDoor
open Go.ChangeShapes Go.WideShapes Go.RowKit Go.Lib Go.ChangeAt
open Go.ChangeMaps (open_string shut_string)

set_option maxHeartbeats 1000000 in
theorem lawNames_walk (s : ByteArray) (w : World) (hs : s.size ≤ maxLen) (hG : Gl w) (hE : GlE w) :
    Calls Tryd.prog 3 #[.string s] w fun e w' => e = .returned (.bool true) ∧ Below w.heap.size w w' := by
  have c1 := name_any s w hs hG
  have c2 := fun W (hb : Below w.heap.size w W) => rName_any s W hs (hG.below hb)
  have c3 := fun W (hb : Below w.heap.size w W) => wakes_any W (hG.below hb) (hE.below hb)
  obtain ⟨b, hb⟩ : ∃ b, nameOk s.data.toList = b := ⟨_, rfl⟩
  rw [hb] at c1 c2
  clear hb hG hE hs
  cases b
  all_goals (
    go_enter Tryd.func3, Tryd.ntmps3
    go_wp2_with (first | (go_at_call 10; (with_reducible refine c1.mono ?_); rintro e w1 ⟨rfl, hb1⟩) | (go_at_call 11; (with_reducible refine (c2 _ hb1).mono ?_); rintro e w2 ⟨rfl, hb2⟩) | (go_at_call 12; (with_reducible refine (c3 _ (tr hb1 hb2)).mono ?_); rintro e w3 ⟨rfl, hb3⟩))
    go_ret
    exact ⟨rfl, tr (tr hb1 hb2) hb3⟩)

set_option maxRecDepth 100000 in
theorem lawNames_lifted (os : Os) (started : os.Started) (H : Type) (enc : TypeId × Value → H) :
    ReturnsInHanded {} Tryd.checked os 3 .any (fun w args => (Rows.lexerNamesSpec.pre enc Tryd.prog Tryd.f3 [] false w args ∧ laidMetH Tryd.prog seatLaid w) ∧ sizedMet enc Tryd.prog Tryd.f3 (OpenSpec.ofChange Rows.lexerNamesSpec) false w args)
      (Rows.lexerNamesSpec.post enc Tryd.prog Tryd.f3 false true false false) := by
  refine returnsInHanded_of_change_and (C := Tryd.checked) (X := fun w _ => laidMetH Tryd.prog seatLaid w) (fun _ _ _ hh h => h.of_heap hh) s_own started (by kernel_rfl) Tryd.func3
    (ChangeSpec.witness_shaped (enc := enc) (C := Tryd.checked) (os := os) (X := fun w _ => laidMetH Tryd.prog seatLaid w) false (seatWorld os) #[.string ⟨#[]⟩] 8 (seatWorld_os os) (seatWorld_shaped os #[.string ⟨#[]⟩]) (by kernel_rfl) (by kernel_rfl) (by kernel_rfl) (seatWorld_call os #[.string ⟨#[]⟩])) ?_
  intro W base args ds gs before hval0 hW _ _ hL _
  have hval : ∀ (j : Nat) t v, Tryd.f3.params[j]? = some t → args[j]? = some v → Value.okWide Tryd.prog W .any base t v := hval0
  have hW' := hW
  obtain ⟨p, q, hA0, hV, rfl, _, _⟩ := hW
  have hA : DataW.TrodAll enc Tryd.prog W 0 (fun _ => true) true Tryd.f3.params.toList args.toList ds p := hA0
  rw [Tryd.params3] at hA hval
  obtain ⟨v0, d0, rfl, rfl, h0⟩ := trodAll_one hA
  obtain ⟨rfl, rfl⟩ := trodVars_none hV
  obtain ⟨s, rfl, rfl, rfl, hs⟩ := open_string Tryd.underlying9 (hval 0 9 v0 rfl rfl) h0
  simp only [List.append_nil] at hW'
  refine (lawNames_walk s W hs (gl_of_laid hL) (glE_of_laid hL)).mono fun e W' ⟨he, hb⟩ => ?_
  subst he
  exact ⟨_, rfl, _, _, _, [], [], [], hW', trodAll_mk1 (shut_bool Tryd.underlying4 _), trodAll_mk1 (shut_string Tryd.underlying9 hs), rfl, hb.frame _, fun h => by cases h⟩

theorem lawNames_holds : Rows.LexerNamesSaid :=
  OpenClaim.holds_of_wide 3 Tryd.f3 rfl rfl rfl rfl rfl rfl rfl ⟨rfl, rfl, rfl, rfl, rfl⟩ rfl rfl rfl rfl rfl (by kernel_rfl) Tryd.func3 (by kernel_rfl)
    (of_decide_eq_true (by kernel_rfl)) (by unfold Func.isWrapper; rw [if_neg (of_decide_eq_false (by kernel_rfl))]; exact ⟨rfl, rfl⟩)
    (fun os started H enc _ => lawNames_lifted os started H enc)
theorem lawNames_card : Rows.LexerNamesCardSaid :=
  Claim7.holds_tied_plain_at .later [] _ _ _ _ lawNames_holds (fun _ h => by cases h) (by kernel_rfl) (fun _ h => by cases h) lexerNames_row_tie rfl ⟨rfl, rfl⟩ (by kernel_rfl) rfl
    (fun f fn hf hfn => by
      obtain rfl : f = 3 := Option.some.inj ((show Tryd.prog.funcNamed "chamfer/chamferlaw26.LexerNames" = some 3 by kernel_rfl).symm.trans hf) |>.symm
      obtain rfl : fn = Tryd.f3 := (Option.some.inj (Tryd.func3.symm.trans hfn)).symm
      exact ⟨by kernel_rfl, fun j t ht => by
        rw [Tryd.params3] at ht
        have hm : t ∈ [9] := by simpa using Array.mem_of_getElem? ht
        have hall : ([9].all fun u => !Tryd.prog.wantsStandIn u) = true := by kernel_rfl
        exact (show Tryd.prog.wantsStandIn t = false by simpa using List.all_eq_true.1 hall t hm)⟩)
    (by kernel_rfl)
#print axioms lawNames_card
end Go.Proofs.YtibnpbfggbbchaaDoor
