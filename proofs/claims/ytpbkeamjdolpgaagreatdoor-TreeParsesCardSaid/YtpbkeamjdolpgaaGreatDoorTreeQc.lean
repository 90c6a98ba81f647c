/- The reference's parser: does a sign of a level stand here? -/
import Derived.Test.YtpbkeamjdolpgaaGreatDoorTreeQb
namespace Go.Proofs.YtpbkeamjdolpgaaGreatDoor
open Go.RowKit Go.Lib Go.Shelf

set_option maxHeartbeats 4000000 in
set_option maxRecDepth 100000 in
/-- Does one of a level's signs stand here? -/
theorem rsignq_any (C : Ctx) (b : Bool) (p k : Nat) (hk : k < 5) (w : World) (h : RSt C w b p) :
    Calls Tryz.prog 182 #[.pointer (some ⟨C.pb, 0, none⟩), .int .i64 k] w fun e w' => e = .returned (.bool (!b && anyT C.ts p (signsK k))) ∧ Below w.heap.size w w' := by
  obtain ⟨R, hR⟩ : ∃ R, (!b && anyT C.ts p (signsK k)) = R := ⟨_, rfl⟩
  rw [hR]
  have HR := Lib.hid hR
  have c1 := rsigns_any k hk w
  have hlen := signsK_len6 k hk
  unfold SgEnd at c1
  have hb0 : ∀ w1 u, Below w.heap.size w w1 → Calls Tryz.prog 82 #[.pointer (some ⟨C.pb, 0, none⟩), .string ⟨u.toArray⟩] w1 fun e w' => e = .returned (.bool (!b && isT C.ts p u)) ∧ Below w1.heap.size w1 w' := fun w1 u hb => ris_any C b p u w1 (h.below hb)
  clear h hR
  obtain ⟨l, hl⟩ : ∃ l, signsK k = l := ⟨_, rfl⟩
  rw [hl] at c1 hlen HR
  obtain ⟨n, hn⟩ : ∃ n, l.length = n := ⟨_, rfl⟩
  rw [hn] at c1 hlen
  have HN := Lib.hid hn
  clear hl hn hk
  go_enter Tryz.func182, Tryz.ntmps182
  go_wp2_with fail
  refine c1.mono ?_
  clear c1
  rintro e w2 ⟨rfl, hb2, hst⟩
  have HST := Lib.hid hst
  have HB2 := Lib.hid hb2
  have HS2 : Hid (w.heap.size ≤ w2.heap.size) := hb2.size
  clear hst hb2
  generalize w.heap.size = g at HST ⊢
  go_wp2_with fail
  go_loopw [6] (fun v wx => ∃ j : Nat, v = .int .i64 j ∧ j ≤ n ∧ Below w2.heap.size w2 wx ∧ Hid (∀ u, u ∈ l.take j → (!b && isT C.ts p u) = false)) (fun v _ => n - (RowKit.intOf v).toNat)
  case atStart => exact ⟨0, rfl, Nat.zero_le _, Below.refl _ _, fun u hu => by simp at hu⟩
  case round =>
    obtain ⟨j, rfl, hj, hb, hs⟩ := hrel
    by_cases hjn : j < n
    · obtain ⟨u, hu⟩ : ∃ u, l[j]? = some u := ⟨l[j]'(by have := HN.out; omega), List.getElem?_eq_getElem _⟩
      have kk := (HST.out.below hb) j u hu
      rw [Nat.zero_add] at kk
      have c2 := hb0 wr u (HB2.out.trans (hb.mono HS2.out))
      have Qj : IntKind.i64.wrap ((j : Int) + 1) = (j : Int) + 1 := IntWalk.i64_in _ (by omega)
      have hjn' : (j : Int) < (n : Int) := by omega
      have hBw : Hid (∀ w3, Below wr.heap.size wr w3 → Below w2.heap.size w2 w3) := fun w3 h3 => tr hb h3
      cases hi : (!b && isT C.ts p u)
      · rw [hi] at c2
        have hs2 : Hid (∀ v, v ∈ l.take (j + 1) → (!b && isT C.ts p v) = false) := by
          intro v hv
          rw [List.take_add_one, hu] at hv
          rcases List.mem_append.1 hv with hv | hv
          · exact hs.out v hv
          · simp at hv
            subst hv
            exact hi
        clear hu hs hi hb
        go_wp2_with fail
        refine c2.mono ?_
        clear c2
        rintro e w3 ⟨rfl, hb3⟩
        have HB3 := Lib.hid (hBw.out w3 hb3)
        clear hb3
        go_wp2_with fail
        go_roundw
        case rel => exact ⟨j + 1, by go_num, by omega, HB3.out, hs2⟩
        case measure => simp [RowKit.intOf]; omega
      · rw [hi] at c2
        have hm : Hid (R = true) := by
          show R = true
          rw [← HR.out]
          simp only [Bool.and_eq_true] at hi ⊢
          refine ⟨hi.1, ?_⟩
          unfold anyT
          exact List.any_eq_true.2 ⟨u, List.mem_of_getElem? hu, hi.2⟩
        clear hu hs hi hb
        go_wp2_with fail
        refine c2.mono ?_
        clear c2
        rintro e w3 ⟨rfl, hb3⟩
        have HB3 := Lib.hid (hBw.out w3 hb3)
        clear hb3
        go_wp2_with fail
        go_ret
        exact ⟨by rw [hm.out]; rfl, HB2.out.trans (HB3.out.mono HS2.out)⟩
    · have hm : Hid (R = false) := by
        show R = false
        rw [← HR.out]
        have := hs.out
        rw [List.take_of_length_le (by have := HN.out; omega)] at this
        cases b
        · simp only [Bool.not_false, Bool.true_and] at this ⊢
          unfold anyT
          exact List.any_eq_false.2 fun u hu => by simp [this u hu]
        · rfl
      have HB3 := Lib.hid hb
      have hjn' : ¬ (j : Int) < (n : Int) := by omega
      clear hs hb
      go_wp2_with fail
      go_ret
      exact ⟨by rw [hm.out]; rfl, HB2.out.trans (HB3.out.mono HS2.out)⟩
end Go.Proofs.YtpbkeamjdolpgaaGreatDoor
