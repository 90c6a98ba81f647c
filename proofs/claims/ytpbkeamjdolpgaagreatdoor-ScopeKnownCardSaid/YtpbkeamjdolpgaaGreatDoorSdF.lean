/- What the Scope rows share: from the listed variables to the facts that the walks ask; a world that meets the condition. -/
import Derived.Test.YtpbkeamjdolpgaaGreatDoorRows
import Derived.Test.YtpbkeamjdolpgaaGreatDoorB20
import Derived.ProofKit
import Derived.ChangeSame
import Derived.ChangeVars
import Derived.JoinedOf
import Derived.RowKit
import Derived.RowKitTokens
import Derived.LaidLaws
import Derived.LaidHandle
import Derived.LaidSub
import Derived.PinnedBridge
import Derived.Lay
import Derived.SizedLaws
import Derived.Stop.Joined
import Derived.Lib.LaidU8
import Derived.Lib.LaidRTab
namespace Go.Proofs.YtpbkeamjdolpgaaGreatDoor
open Go.ChangeShapes Go.WideShapes Go.RowKit Go.Lib Go.ChangeAt

theorem s_own : ownKnob Tryz.prog.godebug = none := by kernel_rfl
theorem s_et : Tryz.prog.globalNamed "errors.errorType" = some 0 := by kernel_rfl
theorem s_rt : (Tryz.prog.cutTypes.find? (·.1 == "internal/reflectlite.rtype")).map (·.2) = some 187 := by kernel_rfl
theorem s_oneRow : ((List.range 303).filter fun t => Tryz.prog.rowNamed t [101, 114, 114, 111, 114]) = [36] := by kernel_rfl
theorem s_size : Tryz.prog.types.size = 303 := by kernel_rfl

/-- The listed variables, as the rows have them. -/
def seatLaid : List (String × DataW Unit) := [("unicode/utf8.acceptRanges", Rows.laid_unicode_utf8_acceptRanges), ("errors.errorType", Rows.laid_errors_errorType), ("unicode.properties", Rows.laid_unicode_properties), ("unicode.Digit", Rows.laid_unicode_Digit), ("unicode.Letter", Rows.laid_unicode_Letter), ("unicode/utf8.first", Rows.laid_unicode_utf8_first)]
def seatPlain : List (String × DataW Unit) := [("unicode/utf8.acceptRanges", Rows.laid_unicode_utf8_acceptRanges), ("unicode.properties", Rows.laid_unicode_properties), ("unicode.Digit", Rows.laid_unicode_Digit), ("unicode.Letter", Rows.laid_unicode_Letter), ("unicode/utf8.first", Rows.laid_unicode_utf8_first)]
theorem s_filter : (seatLaid.filter fun x => x.2.handleName?.isNone) = seatPlain := by kernel_rfl
theorem s_filterH : (seatLaid.filter fun x => x.2.handleName?.isSome) = [("errors.errorType", Rows.laid_errors_errorType)] := by kernel_rfl
theorem s_accept : (Rows.laid_unicode_utf8_acceptRanges : DataW Unit) = acceptData := by kernel_rfl
theorem s_props : (Rows.laid_unicode_properties : DataW Unit) = tabData .u8 propertiesTab := by kernel_rfl
theorem s_digit : (Rows.laid_unicode_Digit : DataW Unit) = Pinned.digit := by kernel_rfl
theorem s_letter : (Rows.laid_unicode_Letter : DataW Unit) = Pinned.letter := by kernel_rfl
theorem s_first : (Rows.laid_unicode_utf8_first : DataW Unit) = Pinned.utf8First := by kernel_rfl

theorem tabIs_of_reads {P : Program} {W : World} {name : String} {k : IntKind} {zs : List Int} {g : Nat} {t e : TypeId} {n : Nat}
    (hg : P.globalNamed name = some g) (hty : (P.globals[g]?).map (·.type) = some t) (ht : P.underlying t = some (.array n e)) (he : P.underlying e = some (.int k)) (hce : P.cellsOf e = 1) (hct : P.cellsOf t = n)
    (h : VarReads P W name (tabData k zs)) : TabIs P W name k zs := by
  obtain ⟨g', t', cs, fuel, p, hg', ht', hvar, hd⟩ := h
  obtain rfl := Option.some.inj (hg.symm.trans hg')
  obtain rfl := Option.some.inj (hty.symm.trans ht')
  unfold TabIs
  rw [hvar, ← cells_of_tab ht he hce hct hd]

theorem gl_of_laid {W : World} (h : laidMetH Tryz.prog seatLaid W) : Gl W := by
  have h1 := (laidMetH_iff.1 h).1
  rw [s_filter] at h1
  have hp : VarReads Tryz.prog W "unicode.properties" (tabData .u8 propertiesTab) := s_props ▸ Lib.laidMet.reads h1 (.tail _ (.head _))
  have hd : VarReads Tryz.prog W "unicode.Digit" (rtabData digitT) := Pinned.digit_eq ▸ s_digit ▸ Lib.laidMet.reads h1 (.tail _ (.tail _ (.head _)))
  have hl : VarReads Tryz.prog W "unicode.Letter" (rtabData letterT) := Pinned.letter_eq ▸ s_letter ▸ Lib.laidMet.reads h1 (.tail _ (.tail _ (.tail _ (.head _))))
  have hf : VarReads Tryz.prog W "unicode/utf8.first" firstData := Pinned.utf8First_eq ▸ s_first ▸ Lib.laidMet.reads h1 (.tail _ (.tail _ (.tail _ (.tail _ (.head _)))))
  have ha : VarReads Tryz.prog W "unicode/utf8.acceptRanges" acceptData := s_accept ▸ Lib.laidMet.reads h1 (.head _)
  have xD : RExtra Tryz.prog Tryz.lays261_ren := ⟨by kernel_rfl, by kernel_rfl, by kernel_rfl, by kernel_rfl, by kernel_rfl, by kernel_rfl, by kernel_rfl, by kernel_rfl⟩
  have xU : U8Extra Tryz.prog Tryz.lays260_ren := ⟨by kernel_rfl, by kernel_rfl, by kernel_rfl, by kernel_rfl, by kernel_rfl, by kernel_rfl, by kernel_rfl⟩
  exact ⟨tabIs_of_reads (g := 1) (t := 202) (e := 5) (by kernel_rfl) (by kernel_rfl) Tryz.underlying202 Tryz.underlying5 (by kernel_rfl) (by kernel_rfl) hp,
    rvar_of_reads (g := 2) Tryz.lays261 xD (by kernel_rfl) (by kernel_rfl) hl, rvar_of_reads (g := 3) Tryz.lays261 xD (by kernel_rfl) (by kernel_rfl) hd, utf8Tabs_of_reads Tryz.lays260 xU hf ha⟩

theorem glE_of_laid {W : World} (h : laidMetH Tryz.prog seatLaid W) : GlE W := by
  have h2 := (laidMetH_iff.1 h).2
  rw [s_filterH] at h2
  obtain ⟨name, u, ty, e1, e2, e3, e4, e5⟩ := h2 _ (List.mem_singleton.2 rfl)
  have en : name = [101, 114, 114, 111, 114] := (Option.some.inj e1).symm
  subst en
  obtain rfl := Option.some.inj (s_rt.symm.trans e2)
  have hm : ty ∈ (List.range 303).filter fun t => Tryz.prog.rowNamed t [101, 114, 114, 111, 114] := List.mem_filter.2 ⟨List.mem_range.2 (by rw [← s_size]; exact e3), e4⟩
  rw [s_oneRow] at hm
  obtain rfl := List.mem_singleton.1 hm
  have hh : typeHandle Tryz.prog 36 = .pointer (some ⟨10, 36, none⟩) := by kernel_rfl
  rw [hh] at e5
  unfold GlE
  simpa using World.var?_cell s_et e5 0

theorem glT_of_laid {W : World} (h : laidMetH Tryz.prog seatLaid W) : Gl W ∧ GlE W := ⟨gl_of_laid h, glE_of_laid h⟩
/-! ### A world that meets the condition -/
noncomputable def seatWorld0 (os : Os) : World :=
  let w0 := World.holding Tryz.prog os ⟨#[], #[], []⟩
  { w0 with heap := w0.heap.modify 0 fun
      | .cells _ t frozen => .cells #[.iface 187 (.agg #[.pointer (some ⟨10, 36, none⟩)])] t frozen
      | o => o }
noncomputable def seatWorld (os : Os) : World := (seatWorld0 os).layVars Tryz.prog seatPlain
theorem seatWorld_os (os : Os) : (seatWorld os).os = os := World.layVars_os _ _ _
theorem seatWorld_shaped (os : Os) (args : Array Value) : ((seatWorld os).forCall (fun _ _ => 0) ⟨#[], args, []⟩).Shaped Tryz.prog := World.shaped_of_ZipB (by kernel_rfl) (by kernel_rfl)
theorem seatWorld_fits (os : Os) : (seatWorld0 os).layFits Tryz.prog seatPlain [] = true := by kernel_rfl
theorem seatWorld_ifaces (os : Os) : (seatWorld0 os).layIfaces Tryz.prog seatPlain (seatWorld os) = true := by kernel_rfl
theorem seatPlain_in : (seatPlain.filter fun x => (seatPlain.map (·.1)).contains x.1) = seatPlain := by kernel_rfl
theorem seatPlain_out : (seatPlain.filter fun x => !(seatPlain.map (·.1)).contains x.1) = [] := by kernel_rfl
theorem seatWorld_plain (os : Os) : laidMet Tryz.prog seatPlain (seatWorld os) :=
  laidMet_layVars (w0 := seatWorld0 os) (seatPlain.map (·.1)) [] (by rw [seatPlain_in]; rfl) (by rw [seatPlain_in]; exact seatWorld_fits os) (by rw [seatPlain_in]; exact seatWorld_ifaces os) (by rw [seatPlain_out]; exact LaidIn.none)
theorem seatWorld_handle (os : Os) : ([("errors.errorType", (Rows.laid_errors_errorType : DataW Unit))].all (handleAtB Tryz.prog (seatWorld os))) = true := by kernel_rfl
theorem seatWorld_met (os : Os) : laidMetH Tryz.prog seatLaid (seatWorld os) :=
  laidMetH_of_parts (by rw [s_filter]; exact seatWorld_plain os) (by rw [s_filterH]; exact seatWorld_handle os)
theorem seatWorld_call (os : Os) (args : Array Value) : laidMetH Tryz.prog seatLaid ((seatWorld os).forCall (fun _ _ => 0) ⟨#[], args, []⟩).memory :=
  (seatWorld_met os).of_heap (by simp [World.memory, World.forCall, Input.heap])
end Go.Proofs.YtpbkeamjdolpgaaGreatDoor
