/- ScopeKnown: closed facts. -/
import Derived.Test.YtpbkeamjdolpgaaGreatDoorS06
namespace Go.Proofs.YtpbkeamjdolpgaaGreatDoor

def skT : List (List UInt8) := [[97, 32, 61, 32, 49, 59, 32, 97, 32, 61, 32, 50, 59], [97, 32, 61, 32, 98, 59], [116, 114, 117, 101, 32, 61, 32, 49, 59], [98, 111, 120, 40, 49, 41, 59], [102, 117, 108, 108, 40, 41, 32, 123, 125], [99, 117, 98, 101, 40, 41, 59], [99, 104, 105, 108, 100, 114, 101, 110, 40, 41, 59], [109, 111, 100, 117, 108, 101, 32, 109, 40, 120, 44, 32, 120, 41, 32, 123, 125], [109, 111, 100, 117, 108, 101, 32, 98, 111, 120, 40, 41, 32, 123, 125], [109, 40, 41, 59, 32, 109, 111, 100, 117, 108, 101, 32, 109, 40, 41, 32, 123, 125], [102, 117, 110, 99, 116, 105, 111, 110, 32, 102, 40, 120, 41, 32, 61, 32, 120, 59, 32, 97, 32, 61, 32, 102, 40, 41, 59], [102, 117, 110, 99, 116, 105, 111, 110, 32, 102, 40, 120, 41, 32, 61, 32, 120, 59, 32, 98, 32, 61, 32, 102, 59], [102, 111, 114, 32, 40, 116, 114, 117, 101, 32, 61, 32, 91, 49, 93, 41, 32, 123, 125], [109, 111, 100, 117, 108, 101, 32, 109, 40, 41, 32, 123, 32, 97, 32, 61, 32, 49, 59, 32, 125, 32, 98, 32, 61, 32, 97, 59], [102, 117, 110, 99, 116, 105, 111, 110, 32, 108, 101, 110, 40, 120, 41, 32, 61, 32, 120, 59], [102, 111, 114, 32, 40, 105, 32, 61, 32, 105, 41, 32, 123, 125], [109, 111, 100, 117, 108, 101, 32, 109, 40, 116, 114, 117, 101, 41, 32, 123, 125], [109, 111, 100, 117, 108, 101, 32, 109, 40, 41, 32, 123, 125, 32, 109, 111, 100, 117, 108, 101, 32, 109, 40, 120, 41, 32, 123, 125], [117, 110, 105, 111, 110, 40, 41, 32, 123, 32, 99, 104, 105, 108, 100, 114, 101, 110, 40, 41, 59, 32, 125], [109, 111, 118, 101, 40, 41, 59], [114, 97, 110, 103, 101, 40, 49, 41, 59], [97, 32, 61, 32, 108, 101, 110, 40, 49, 44, 32, 99, 41, 59], [100, 111, 116, 115, 40, 91, 122, 93, 41, 59]]
def skC : List Int := [280, 280, 280, 281, 281, 280, 280, 280, 280, 280, 281, 280, 280, 280, 280, 280, 280, 280, 280, 281, 280, 281, 280]
def skP : List Int := [7, 4, 0, 0, 0, 0, 0, 12, 0, 0, 23, 23, 0, 26, 0, 9, 9, 14, 10, 0, 0, 4, 6]
def skW : List (List UInt8) := [[97], [98], [116, 114, 117, 101], [98, 111, 120], [102, 117, 108, 108], [99, 117, 98, 101], [99, 104, 105, 108, 100, 114, 101, 110], [120], [98, 111, 120], [109], [102], [102], [116, 114, 117, 101], [97], [108, 101, 110], [105], [116, 114, 117, 101], [109], [99, 104, 105, 108, 100, 114, 101, 110], [109, 111, 118, 101], [114, 97, 110, 103, 101], [108, 101, 110], [122]]
def skR : List (List UInt8) := [[102, 117, 110, 99, 116, 105, 111, 110, 32, 102, 40, 120, 41, 32, 61, 32, 102, 40, 120, 32, 45, 32, 49, 41, 59], [102, 111, 114, 32, 40, 105, 32, 61, 32, 91, 49, 93, 41, 32, 123, 32, 105, 32, 61, 32, 50, 59, 32, 125], [97, 32, 61, 32, 49, 59, 32, 105, 102, 32, 40, 116, 114, 117, 101, 41, 32, 123, 32, 97, 32, 61, 32, 50, 59, 32, 125], [109, 111, 100, 117, 108, 101, 32, 109, 40, 41, 32, 123, 32, 99, 104, 105, 108, 100, 114, 101, 110, 40, 41, 59, 32, 109, 40, 41, 32, 123, 32, 99, 104, 105, 108, 100, 114, 101, 110, 40, 41, 59, 32, 125, 32, 125], [97, 32, 61, 32, 49, 59, 32, 109, 111, 100, 117, 108, 101, 32, 97, 40, 97, 41, 32, 123, 32, 97, 32, 61, 32, 97, 59, 32, 125, 32, 102, 117, 110, 99, 116, 105, 111, 110, 32, 97, 40, 97, 41, 32, 61, 32, 97, 59, 32, 97, 40, 97, 40, 97, 41, 41, 59], [98, 111, 120, 32, 61, 32, 49, 59, 32, 98, 111, 120, 40, 91, 98, 111, 120, 93, 44, 32, 98, 111, 120, 41, 59], [109, 111, 100, 117, 108, 101, 32, 109, 40, 120, 41, 32, 123, 32, 117, 110, 105, 111, 110, 40, 41, 32, 123, 32, 99, 104, 105, 108, 100, 114, 101, 110, 40, 41, 59, 32, 125, 32, 120, 32, 61, 32, 120, 59, 32, 125, 32, 109, 40, 49, 41, 32, 123, 32, 102, 117, 108, 108, 40, 41, 59, 32, 125], []]
def skOk (t : List UInt8) (c p : Int) (n : List UInt8) : Bool := match parseR t with
  | .ok l => decide (wrongE (evX l) = some (c, n, p))
  | .error _ => false
def skOkR (t : List UInt8) : Bool := match parseR t with
  | .ok l => decide (wrongE (evX l) = none)
  | .error _ => false
theorem skOk_of {t : List UInt8} {c p : Int} {n : List UInt8} (h : skOk t c p n = true) : ∃ l, parseR t = .ok l ∧ wrongE (evX l) = some (c, n, p) := by
  unfold skOk at h
  split at h
  · next l hl => exact ⟨l, hl, of_decide_eq_true h⟩
  · cases h
theorem skOkR_of {t : List UInt8} (h : skOkR t = true) : ∃ l, parseR t = .ok l ∧ wrongE (evX l) = none := by
  unfold skOkR at h
  split at h
  · next l hl => exact ⟨l, hl, of_decide_eq_true h⟩
  · cases h
theorem sk_all : (List.range 23).all (fun i => skOk (skT.getD i []) (skC.getD i 0) (skP.getD i 0) (skW.getD i [])) = true := by kernel_rfl
theorem sk_allR : skR.all skOkR = true := by kernel_rfl
theorem sk_at (i : Nat) (hi : i < 23) : ∃ t c p n l, skT[i]? = some t ∧ skC[i]? = some c ∧ skP[i]? = some p ∧ skW[i]? = some n ∧ parseR t = .ok l ∧ wrongE (evX l) = some (c, n, p) := by
  have h := List.all_eq_true.1 sk_all i (List.mem_range.2 hi)
  have e1 : skT[i]? = some (skT[i]'hi) := List.getElem?_eq_getElem _
  have e2 : skC[i]? = some (skC[i]'hi) := List.getElem?_eq_getElem _
  have e3 : skP[i]? = some (skP[i]'hi) := List.getElem?_eq_getElem _
  have e4 : skW[i]? = some (skW[i]'hi) := List.getElem?_eq_getElem _
  rw [List.getD_eq_getElem?_getD, List.getD_eq_getElem?_getD, List.getD_eq_getElem?_getD, List.getD_eq_getElem?_getD, e1, e2, e3, e4] at h
  obtain ⟨l, h1, h2⟩ := skOk_of h
  exact ⟨_, _, _, _, l, e1, e2, e3, e4, h1, h2⟩
theorem sk_atR (i : Nat) (hi : i < 8) : ∃ t l, skR[i]? = some t ∧ parseR t = .ok l ∧ wrongE (evX l) = none := by
  have e1 : skR[i]? = some (skR[i]'hi) := List.getElem?_eq_getElem _
  obtain ⟨l, h1, h2⟩ := skOkR_of (List.all_eq_true.1 sk_allR _ (List.getElem_mem hi))
  exact ⟨_, l, e1, h1, h2⟩
def skX : List UInt8 := [97, 32, 61, 32, 98, 32, 43, 32, 99, 40, 100, 41, 59, 32, 101, 40, 41, 59]
def skOkX : Bool := match parseR skX with
  | .ok l => decide (sfreeR l = [[98], [99], [100], [101]]) && decide (scallR l = [[99], [101]])
  | .error _ => false
theorem sk_x : ∃ l, parseR skX = .ok l ∧ sfreeR l = [[98], [99], [100], [101]] ∧ scallR l = [[99], [101]] := by
  have h : skOkX = true := by kernel_rfl
  unfold skOkX at h
  split at h
  · next l hl =>
    rw [Bool.and_eq_true] at h
    exact ⟨l, hl, of_decide_eq_true h.1, of_decide_eq_true h.2⟩
  · cases h
def skB : List Nd := [.mk 99 [120] [] 0]
theorem skB_check : checkR skB = 290 := by kernel_rfl
theorem skB_free : sfreeR skB = [] := by kernel_rfl
theorem skB_call : scallR skB = [] := by kernel_rfl
end Go.Proofs.YtpbkeamjdolpgaaGreatDoor
