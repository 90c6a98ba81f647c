/- For every slice of tokens of bulk at most 1048576 lexer.Join says what the reference's Join says, and the closed check holds: the law LexerJoins returns true. Conditions: the row's bound, and that the listed variables of Go's library and errors.errorType are as the program's text lays them (the card ties them). -/
import Derived.Test.YtibnpbfggbbchaaDoorFrU
import Derived.Test.YtibnpbfggbbchaaDoorCards
import Derived.Test.YtibnpbfggbbchaaDoorTie
import Derived.SevenTiedAt
namespace Go.Proofs.YtibnpbfggbbchaaDoor
open Go.ChangeShapes Go.WideShapes Go.RowKit Go.Lib Go.ChangeAt

theorem joinL_mem_le {l : List Ta} {u : Ta} (h : u ∈ l) : u.2.1.size ≤ (joinL l).length := by
  obtain ⟨a, b, rfl⟩ := List.append_of_mem h
  have h1 := joinL_app_le (a ++ [u]) b
  rw [List.append_assoc, List.singleton_append] at h1
  rw [Lib.size_eq]
  refine Nat.le_trans ?_ h1
  by_cases ha : a = []
  · subst ha
    rw [List.nil_append, joinL_one]
    exact Nat.le_refl _
  · rw [joinL_snoc a u ha]
    simp
    omega
theorem join_all (l : List Ta) (x : Option Addr) (c : Nat) (w : World) (hA : ARow w x l) (hj : (joinL l).length ≤ 70368744177664) (hG : Gl w) :
    Calls Tryd.prog 18 #[.slice x l.length c] w fun e w' => e = .returned (.tuple #[.string ⟨(joinR l).1.toArray⟩, .int .i64 (joinR l).2]) ∧ Below w.heap.size w w' := by
  by_cases hn : l.length ≤ 4096
  · exact join_any l x c w hn hA (fun u hu => by have := joinL_mem_le hu; unfold maxLen; omega) (by omega) hG
  · exact join_long l x c w (by omega)
theorem rjoin_all (l : List Ta) (x : Option Addr) (c : Nat) (w : World) (hA : ARow w x l) (hj : (joinL l).length ≤ 70368744177664) (hG : Gl w) :
    Calls Tryd.prog 19 #[.slice x l.length c] w fun e w' => e = .returned (.tuple #[.string ⟨(joinR l).1.toArray⟩, .int .i64 (joinR l).2]) ∧ Below w.heap.size w w' := by
  by_cases hn : l.length ≤ 4096
  · exact rjoin_any l x c w hn hA (fun u hu => by have := joinL_mem_le hu; omega) hG
  · exact rjoin_long l x c w (by omega)

set_option maxHeartbeats 1000000 in
theorem lawLexerJoins_walk (l : List Ta) (x : Option Addr) (c : Nat) (w : World) (hA : ARow w x l) (hj : (joinL l).length ≤ 70368744177664) (hG : Gl w) (hE : GlE w) :
    Calls Tryd.prog 7 #[.slice x l.length c] w fun e w' => e = .returned (.bool true) ∧ Below w.heap.size w w' := by
  have c1 := join_all l x c w hA hj hG
  have c2 := fun W (hb : Below w.heap.size w W) => rjoin_all l x c W (hA.below hb) hj (hG.below hb)
  have c3 := fun W (hb : Below w.heap.size w W) => wakes_any W (hG.below hb) (hE.below hb)
  obtain ⟨T, hT⟩ : ∃ T : ByteArray, (⟨(joinR l).1.toArray⟩ : ByteArray) = T := ⟨_, rfl⟩
  obtain ⟨E, hE2⟩ : ∃ E, (joinR l).2 = E := ⟨_, rfl⟩
  rw [hT, hE2] at c1 c2
  clear hT hE2 hG hE hA hj
  go_enter Tryd.func7, Tryd.ntmps7
  go_wp2_with (first | (go_at_call 18; (with_reducible refine c1.mono ?_); rintro e w1 ⟨rfl, hb1⟩) | (go_at_call 19; (with_reducible refine (c2 _ hb1).mono ?_); rintro e w2 ⟨rfl, hb2⟩) | (go_at_call 12; (with_reducible refine (c3 _ (tr hb1 hb2)).mono ?_); rintro e w3 ⟨rfl, hb3⟩))
  go_ret
  exact ⟨rfl, tr (tr hb1 hb2) hb3⟩

set_option maxRecDepth 100000 in
theorem lawLexerJoins_lifted (os : Os) (started : os.Started) (H : Type) (enc : TypeId × Value → H) (F : Stop.Interp) :
    ReturnsInHanded {} Tryd.checked os 7 .any ((Rows.OpenSpec.upto Rows.lexerJoinsSpec).preRow enc Tryd.prog Tryd.f7 [] false seatLaid) (((Rows.OpenSpec.upto Rows.lexerJoinsSpec).at F).post enc Tryd.prog Tryd.f7 false true false false) := by
  have hx : ∃ places, DataW.whole enc Tryd.prog ((seatWorld os).forCall (fun _ _ => 0) ⟨#[], #[.slice none 0 0], []⟩).memory Tryd.f7.params.toList Rows.lexerJoinsSpec.vars false #[Value.slice none 0 0].toList 8 = some ([.nil], [], places) := ⟨[], by kernel_rfl⟩
  obtain ⟨places, hx⟩ := hx
  refine returnsInHanded_of_row (C := Tryd.checked) (s := Rows.OpenSpec.upto Rows.lexerJoinsSpec) s_own started (by kernel_rfl) Tryd.func7
    (s_witnessU (enc := enc) os (f := 7) (fn := Tryd.f7) #[.slice none 0 0] (by kernel_rfl)
      (OpenSpec.preRow_of_cond 8 hx (by kernel_rfl) (fun k hk => by cases hk; kernel_rfl) (by kernel_rfl) (seatWorld_call os #[.slice none 0 0]))) ?_
  intro W base args ds gs before hval0 hW _ hcond _ hL _ _
  have hval : ∀ (j : Nat) t v, Tryd.f7.params[j]? = some t → args[j]? = some v → Value.okWide Tryd.prog W .any base t v := hval0
  have hk : Rows.uptoSmall H (ds ++ gs) = true := hcond _ rfl
  have hW' := hW
  obtain ⟨p, q, hA0, hV, rfl, _, _⟩ := hW
  have hA : DataW.TrodAll enc Tryd.prog W 0 (fun _ => true) true Tryd.f7.params.toList args.toList ds p := hA0
  rw [Tryd.params7] at hA hval
  obtain ⟨v0, d0, rfl, rfl, h0⟩ := trodAll_one hA
  obtain ⟨rfl, rfl⟩ := trodVars_none hV
  obtain ⟨a0, len, cap, rfl⟩ := okWide_slice Tryd.underlying24 (hval 0 24 v0 rfl rfl)
  have h0k := h0
  obtain ⟨fuel, hf⟩ := h0
  simp only [List.append_nil] at hW' hk
  have hlt : ∀ x ∈ p, x.block < W.heap.size := fun x hx => by simpa using hW'.lt x hx
  obtain ⟨l, rfl, hrow, hj⟩ := open_toks (by simpa [Value.cells] using hf)
  have hk2 : Rows.uptoBulkAll [d0] ≤ 1048576 := of_decide_eq_true hk
  simp only [Rows.uptoBulkAll] at hk2
  refine (lawLexerJoins_walk l a0 cap W hrow (by omega) (gl_of_laid hL) (glE_of_laid hL)).mono fun e W' ⟨he, hb⟩ => ?_
  subst he
  exact ⟨_, rfl, _, _, _, [], p, [], hW', trodAll_mk1 (shut_bool Tryd.underlying4 _), trodAll_mk1 (Below.trod (by kernel_rfl) (by kernel_rfl) (of_decide_eq_true (by kernel_rfl)) h0k hb hlt), rfl, hb.frame _, fun h => by cases h⟩

theorem lawLexerJoins_holds : Rows.LexerJoinsUptoSaid :=
  OpenClaim.holds_of_cond 7 Tryd.f7 rfl rfl rfl rfl rfl rfl rfl ⟨rfl, rfl, rfl, rfl, rfl⟩ rfl rfl rfl rfl rfl (by kernel_rfl) Tryd.func7 (by kernel_rfl)
    (of_decide_eq_true (by kernel_rfl)) (by unfold Func.isWrapper; rw [if_neg (of_decide_eq_false (by kernel_rfl))]; exact ⟨rfl, rfl⟩)
    (fun os started H enc _ F => by rw [OpenClaim.pre_eq_preRow]; exact lawLexerJoins_lifted os started H enc F)
theorem lawLexerJoins_card : Rows.LexerJoinsUptoCardSaid :=
  Claim7.holds_tied_plain_at .later [] _ _ _ _ lawLexerJoins_holds (fun _ h => by cases h) (by kernel_rfl) (fun _ h => by cases h) lexerJoinsUpto_row_tie rfl ⟨rfl, rfl⟩ (by kernel_rfl) rfl
    (fun f fn hf hfn => by
      obtain rfl : f = 7 := Option.some.inj ((show Tryd.prog.funcNamed "chamfer/chamferlaw26.LexerJoins" = some 7 by kernel_rfl).symm.trans hf) |>.symm
      obtain rfl : fn = Tryd.f7 := (Option.some.inj (Tryd.func7.symm.trans hfn)).symm
      exact ⟨by kernel_rfl, fun j t ht => by
        rw [Tryd.params7] at ht
        have hm : t ∈ [24] := by simpa using Array.mem_of_getElem? ht
        have hall : ([24].all fun u => !Tryd.prog.wantsStandIn u) = true := by kernel_rfl
        exact (show Tryd.prog.wantsStandIn t = false by simpa using List.all_eq_true.1 hall t hm)⟩)
    (by kernel_rfl)
#print axioms lawLexerJoins_card
end Go.Proofs.YtibnpbfggbbchaaDoor
