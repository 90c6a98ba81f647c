/- The walk of TreeParses. -/
import Derived.Test.YtpbkeamjdolpgaaGreatDoorTreeQo
namespace Go.Proofs.YtpbkeamjdolpgaaGreatDoor
open Go.RowKit Go.Lib

theorem parseR_sz {s : List UInt8} {l : List Nd} (h : parseR s = .ok l) : szL l ≤ 4096 := by
  rw [parseR_eq] at h
  cases hT : tokensL s with
  | error f => rw [hT] at h; simp [parseX] at h
  | ok ts =>
    rw [hT] at h
    have hl := tokensL_len s ts hT
    simp only [parseX, parseT_eq] at h
    cases hS : stmtsP ts s.length 8192 8192 [] 0 with
    | out => rw [hS] at h; simp [parseS] at h
    | bad q => rw [hS] at h; simp [parseS] at h
    | ok l' q =>
      rw [hS] at h
      have h1 := parse_sz (F := 8192) (f := 8192) (L := s.length) (r := q) (by omega) (by omega) hS
      simp only [parseS] at h
      cases hD : deepL l' 1 with
      | some x => rw [hD] at h; simp at h
      | none =>
        rw [hD] at h
        simp at h
        subst h
        omega
theorem SpW.row {ok ok' : Nat → Prop} {w0 w : World} {l : List Nd} {y : Option Addr} (h : SpW ok w0 w) (hr : NdRow w0 ok' l y) (hn : ∀ b, ok' b → ¬ ok b) : NdRow w (fun _ => True) l y :=
  NdRow.mono (fun _ _ _ => trivial) (fun b hb hl => h.others b hl (hn b hb)) l y hr
theorem SpW.below {ok : Nat → Prop} {w0 w : World} {B : Nat} (h : SpW ok w0 w) (hB : B ≤ w0.heap.size) (hn : ∀ b, ok b → B ≤ b) : Below B w0 w :=
  ⟨h.os, h.tape, h.output, h.size, fun b hb => h.others b (Nat.lt_of_lt_of_le hb hB) (fun ho => by have := hn b ho; omega)⟩

set_option maxHeartbeats 4000000 in
set_option maxRecDepth 100000 in
theorem treeParses_any (s : ByteArray) (hs : s.size < 2 ^ 62) (w : World) (hG : GlT w) :
    Calls Tryz.prog 8 #[.string s] w fun e w' => e = .returned (.bool true) ∧ Below w.heap.size w w' := by
  have c0 := works_any w hG
  have HG := Lib.hid hG
  have hss : s.data.toList.length < 2 ^ 62 := by rw [← Lib.size_eq]; exact hs
  clear hG
  by_cases hlen : 16384 < s.size
  · have Q : decide ((s.size : Int) > 16384) = true := by simp; omega
    have Q2 : decide ((16384 : Int) < (s.size : Int)) = true := by simp; omega
    clear hlen
    go_enter Tryz.func8, Tryz.ntmps8
    go_wp2_with fail
    refine c0.mono ?_
    clear c0
    rintro e w1 ⟨rfl, hb1⟩
    have c1 := works_any w1 (HG.out.below hb1)
    have HB1 := Lib.hid hb1
    clear hb1
    go_wp2_with fail
    refine c1.mono ?_
    clear c1
    rintro e w2 ⟨rfl, hb2⟩
    have HB2 := Lib.hid (tr HB1.out hb2)
    clear hb2
    go_wp2_with fail
    go_ret
    exact ⟨rfl, HB2.out⟩
  · have Q : decide ((s.size : Int) > 16384) = false := by simp; omega
    have Q2 : decide ((16384 : Int) < (s.size : Int)) = false := by simp; omega
    clear hlen
    obtain ⟨P, hP⟩ : ∃ P, parseR s.data.toList = P := ⟨_, rfl⟩
    have HP := Lib.hid hP
    clear hP
    go_enter Tryz.func8, Tryz.ntmps8
    go_wp2_with fail
    refine c0.mono ?_
    clear c0
    rintro e w1 ⟨rfl, hb1⟩
    have c1 := parse_any s w1 (HG.out.1.below hb1)
    rw [HP.out] at c1
    unfold ParseEnd at c1
    have HB1 := Lib.hid hb1
    clear hb1
    cases P with
    | ok l =>
      dsimp only at c1
      have hsz := parseR_sz HP.out
      have hln := len_szL l
      have HSZ := Lib.hid hsz
      clear hsz hln
      go_wp2_with fail
      refine c1.mono ?_
      clear c1
      rintro e w2 ⟨hb2, y1, k1, rfl, hr1, -⟩
      have c2 := parse_any s w2 ((HG.out.1.below HB1.out).below hb2)
      rw [HP.out] at c2
      unfold ParseEnd at c2
      dsimp only at c2
      have HB2 := Lib.hid hb2
      have HR1 := Lib.hid hr1
      clear hb2 hr1
      go_wp2_with fail
      refine c2.mono ?_
      clear c2
      rintro e w3 ⟨hb3, y2, k2, rfl, hr2, -⟩
      have c3 := rparse_any s w3 (((HG.out.1.below HB1.out).below HB2.out).below hb3)
      rw [HP.out] at c3
      unfold RParseEnd at c3
      dsimp only at c3
      have HB3 := Lib.hid hb3
      have HR2 := Lib.hid hr2
      clear hb3 hr2
      go_wp2_with fail
      refine c3.mono ?_
      clear c3
      rintro e w4 ⟨hb4, y3, k3, rfl, hr3⟩
      have r1 : NdRow w4 (fun _ => True) l y1 := ((HR1.out.below HB3.out).below hb4).wide fun _ _ _ => trivial
      have c4 := same27_any (fun _ => True) (szL l + 1) l (Nat.lt_succ_self _) (by have := HSZ.out; omega) y1 y3 k1 k3 w4 r1 (hr3.wide fun _ _ _ => trivial)
      have HB4 := Lib.hid hb4
      have HR3 := Lib.hid hr3
      clear hb4 hr3 r1
      go_wp2_with fail
      refine c4.mono ?_
      clear c4
      rintro e w5 ⟨rfl, hb5⟩
      have HB5 := Lib.hid hb5
      have c5 := fault_nil w5
      have c6 := fault_nil w5
      clear hb5
      have hb25 : Below w2.heap.size w2 w5 := tr (tr HB3.out HB4.out) HB5.out
      have hsp : NdRow w5 (fun b => w1.heap.size ≤ b ∧ b < w2.heap.size) l y1 := NdRow.mono (fun k h1 h2 => ⟨h1, h2⟩) (fun k _ h2 => hb25.block k h2) l y1 HR1.out
      have c7 := spoil_any (fun b => w1.heap.size ≤ b ∧ b < w2.heap.size) w5 (fun b hb => by have := hb25.size; omega) (szL l + 1) l (Nat.lt_succ_self _) (by have := HSZ.out; omega) y1 k1 w5 hsp (SpW.refl _ _)
      have HB25 := Lib.hid hb25
      clear hb25 hsp
      go_wp2_with (first | (go_at_call 28; (with_reducible refine c5.mono ?_); rintro e w6 ⟨rfl, rfl⟩))
      refine c7.mono ?_
      clear c5 c6 c7
      rintro e w6 ⟨rfl, hsp⟩
      have hx2 : NdRow w5 (fun b => w2.heap.size ≤ b) l y2 := (HR2.out.below HB4.out).below HB5.out
      have hx3 : NdRow w5 (fun b => w3.heap.size ≤ b) l y3 := HR3.out.below HB5.out
      have c8 := same27_any (fun _ => True) (szL l + 1) l (Nat.lt_succ_self _) (by have := HSZ.out; omega) y2 y3 k2 k3 w6 (hsp.row hx2 fun b h1 h2 => by omega) (hsp.row hx3 fun b h1 h2 => by have := HB3.out.size; omega)
      have HB6 : Hid (Below w.heap.size w w6) := by
        have h1 : Below w.heap.size w w5 := tr (tr HB1.out HB2.out) HB25.out
        exact h1.trans (hsp.below h1.size (fun b hb => by have := HB1.out.size; omega))
      clear hsp hx2 hx3
      go_wp2_with fail
      refine c8.mono ?_
      clear c8
      rintro e w7 ⟨rfl, hb7⟩
      have HB7 := Lib.hid (tr HB6.out hb7)
      clear hb7
      go_wp2_with fail
      go_ret
      exact ⟨rfl, HB7.out⟩
    | error f =>
      dsimp only at c1
      go_wp2_with fail
      refine c1.mono ?_
      clear c1
      rintro e w2 ⟨hb2, g1, -, rfl, hf1⟩
      have c2 := parse_any s w2 ((HG.out.1.below HB1.out).below hb2)
      rw [HP.out] at c2
      unfold ParseEnd at c2
      dsimp only at c2
      have HB2 := Lib.hid hb2
      have HF1 := Lib.hid hf1
      clear hb2 hf1
      go_wp2_with fail
      refine c2.mono ?_
      clear c2
      rintro e w3 ⟨hb3, g2, -, rfl, hf2⟩
      have c3 := rparse_any s w3 (((HG.out.1.below HB1.out).below HB2.out).below hb3)
      rw [HP.out] at c3
      unfold RParseEnd at c3
      dsimp only at c3
      have HB3 := Lib.hid hb3
      have HF2 := Lib.hid hf2
      clear hb3 hf2
      go_wp2_with fail
      refine c3.mono ?_
      clear c3
      rintro e w4 ⟨hb4, g3, rfl, hf3⟩
      have z0 : szL ([] : List Nd) = 0 := rfl
      have c4 := same27_any (fun _ => True) 1 [] (by omega) (by omega) none none 0 0 w4 trivial trivial
      have HB4 := Lib.hid hb4
      have HF3 := Lib.hid hf3
      clear hb4 hf3 z0
      go_wp2_with fail
      refine c4.mono ?_
      clear c4
      rintro e w5 ⟨rfl, hb5⟩
      have HB5 := Lib.hid hb5
      have keep : ∀ {a b : World} {g : Nat} {o : Obj}, Below a.heap.size a b → a.heap[g]? = some o → b.heap[g]? = some o := fun hb h => (hb.block _ (Array.getElem?_eq_some_iff.1 h).1).trans h
      have G5 : Hid (GlE w5) := (((((HG.out.2.1.below HB1.out).below HB2.out).below HB3.out).below HB4.out).below hb5)
      have c5 := fault_hit f.1 f.2.1 ⟨f.2.2.toArray⟩ g1 g3 w5 G5.out (keep HB5.out (keep HB4.out (keep HB3.out HF1.out))) (keep HB5.out HF3.out)
      clear hb5
      go_wp2_with fail
      refine c5.mono ?_
      clear c5
      rintro e w6 ⟨rfl, hb6⟩
      have c6 := fault_hit f.1 f.2.1 ⟨f.2.2.toArray⟩ g2 g3 w6 (G5.out.below hb6) (keep hb6 (keep HB5.out (keep HB4.out HF2.out))) (keep hb6 (keep HB5.out HF3.out))
      have HB6 := Lib.hid hb6
      clear hb6
      go_wp2_with fail
      refine c6.mono ?_
      clear c6 keep
      rintro e w7 ⟨rfl, hb7⟩
      have z0 : szL ([] : List Nd) = 0 := rfl
      have c7 := spoil_any (fun _ => False) w7 (fun b hb => hb.elim) 1 [] (by omega) (by omega) none 0 w7 trivial (SpW.refl _ _)
      have HB7 : Hid (Below w.heap.size w w7) := tr (tr (tr (tr (tr (tr HB1.out HB2.out) HB3.out) HB4.out) HB5.out) HB6.out) hb7
      clear hb7 z0
      go_wp2_with fail
      refine c7.mono ?_
      clear c7
      rintro e w8 ⟨rfl, hsp⟩
      have z0 : szL ([] : List Nd) = 0 := rfl
      have c8 := same27_any (fun _ => True) 1 [] (by omega) (by omega) none none 0 0 w8 trivial trivial
      have HB8 : Hid (Below w.heap.size w w8) := HB7.out.trans (hsp.below HB7.out.size (fun b hb => hb.elim))
      clear hsp z0
      go_wp2_with fail
      refine c8.mono ?_
      clear c8
      rintro e w9 ⟨rfl, hb9⟩
      have HB9 := Lib.hid (tr HB8.out hb9)
      clear hb9
      go_wp2_with fail
      go_ret
      exact ⟨rfl, HB9.out⟩
end Go.Proofs.YtpbkeamjdolpgaaGreatDoor
