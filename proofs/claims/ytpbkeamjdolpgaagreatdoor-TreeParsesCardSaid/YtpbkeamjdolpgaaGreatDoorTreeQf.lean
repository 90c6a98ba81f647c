/- The reference's parser: its small methods, with what else is known behind them; arguments, parameters. -/
import Derived.Test.YtpbkeamjdolpgaaGreatDoorTreeQe
namespace Go.Proofs.YtpbkeamjdolpgaaGreatDoor
open Go.RowKit Go.Lib Go.Shelf

theorem rtake_x (C : Ctx) (b : Bool) (p : Nat) (s : List UInt8) (w : World) (h : RSt C w b p) (X : World → Prop) (hX : ∀ w', Ow C.pb w w' → X w') :
    Calls Tryz.prog 86 #[.pointer (some ⟨C.pb, 0, none⟩), .string ⟨s.toArray⟩] w fun e w' => ∃ b' p', Mt (Tot (takeP C.ts C.s.size s) b p) b' p' (placeT C.ts C.s.size p) ∧ e = .returned (.int .i64 (placeT C.ts C.s.size p)) ∧ RSt C w' b' p' ∧ Ow C.pb w w' ∧ X w' :=
  (rtake_any C b p s w h).mono fun _ _ ⟨b', p', _, h1, h2, h3, h4⟩ => ⟨b', p', h1.place, h2, h3, h4, hX _ h4⟩
theorem rname_x (C : Ctx) (b : Bool) (p : Nat) (w : World) (h : RSt C w b p) (X : World → Prop) (hX : ∀ w', Ow C.pb w w' → X w') :
    Calls Tryz.prog 83 #[.pointer (some ⟨C.pb, 0, none⟩)] w fun e w' => ∃ b' p' a, Mt (Tot (nameP C.ts) b p) b' p' a ∧ e = .returned (.string ⟨a.toArray⟩) ∧ RSt C w' b' p' ∧ Ow C.pb w w' ∧ X w' :=
  (rnameq_any C b p w h).mono fun _ _ ⟨b', p', a, h1, h2, h3, h4⟩ => ⟨b', p', a, h1, h2, h3, h4, hX _ h4⟩
theorem ris_x (C : Ctx) (b : Bool) (p : Nat) (s : List UInt8) (w : World) (h : RSt C w b p) (X : World → Prop) (hX : ∀ w', Ow C.pb w w' → X w') :
    Calls Tryz.prog 82 #[.pointer (some ⟨C.pb, 0, none⟩), .string ⟨s.toArray⟩] w fun e w' => e = .returned (.bool (!b && isT C.ts p s)) ∧ RSt C w' b p ∧ Ow C.pb w w' ∧ X w' :=
  (ris_any C b p s w h).mono fun _ _ ⟨h1, h2⟩ => ⟨h1, h.below h2, Ow.of_below h2, hX _ (Ow.of_below h2)⟩
theorem rplace_x (C : Ctx) (b : Bool) (p : Nat) (w : World) (h : RSt C w b p) (X : World → Prop) (hX : ∀ w', Ow C.pb w w' → X w') :
    Calls Tryz.prog 81 #[.pointer (some ⟨C.pb, 0, none⟩)] w fun e w' => e = .returned (.int .i64 (placeT C.ts C.s.size p)) ∧ RSt C w' b p ∧ Ow C.pb w w' ∧ X w' :=
  (rplace_any C b p w h).mono fun _ _ ⟨h1, h2⟩ => ⟨h1, h.below h2, Ow.of_below h2, hX _ (Ow.of_below h2)⟩
theorem rnode_x {C : Ctx} {F : Nat} {args : Array Value} {w : World} {R : Nat → Res Nd} {b : Bool} {p : Nat} (h : Calls Tryz.prog F args w (RFinN C w R b p)) (X : World → Prop) (hX : ∀ w', Ow C.pb w w' → X w') :
    Calls Tryz.prog F args w fun e w' => ∃ b' p' k n kids pp y c, Mt (Tot R b p) b' p' (.mk k n kids pp) ∧ e = .returned (.agg #[.int .i64 k, .string ⟨n.toArray⟩, .slice y kids.length c, .int .i64 pp]) ∧ NdRow w' (fun j => w.heap.size ≤ j) kids y ∧ RSt C w' b' p' ∧ Ow C.pb w w' ∧ X w' :=
  h.mono fun _ _ ⟨b', p', k, n, kids, pp, y, c, h1, h2, h3, h4, h5⟩ => ⟨b', p', k, n, kids, pp, y, c, h1, h2, h3, h4, h5, hX _ h5⟩
theorem rrow_x {C : Ctx} {F : Nat} {args : Array Value} {w : World} {R : Nat → Res (List Nd)} {b : Bool} {p : Nat} (h : Calls Tryz.prog F args w (RFinR C w R b p)) (X : World → Prop) (hX : ∀ w', Ow C.pb w w' → X w') :
    Calls Tryz.prog F args w fun e w' => ∃ b' p' l y c, Mt (Tot R b p) b' p' l ∧ e = .returned (.slice y l.length c) ∧ NdRow w' (fun j => w.heap.size ≤ j) l y ∧ RSt C w' b' p' ∧ Ow C.pb w w' ∧ X w' :=
  h.mono fun _ _ ⟨b', p', l, v, h1, h2, h3, h4, h5⟩ => by
    obtain ⟨y, c, rfl, _, h6⟩ := h3.shape
    exact ⟨b', p', l, y, c, h1, h2, h6, h4, h5, hX _ h5⟩
theorem set4_oth {w : World} {b q : Nat} {u0 u1 u2 u3 : Value} (h : q ≠ b) : ((((w.setCell ⟨b, 0, none⟩ u0).setCell ⟨b, 1, none⟩ u1).setCell ⟨b, 2, none⟩ u2).setCell ⟨b, 3, none⟩ u3).heap[q]? = w.heap[q]? := by
  rw [Below.heap_setCell _ _ _ _ h, Below.heap_setCell _ _ _ _ h, Below.heap_setCell _ _ _ _ h, Below.heap_setCell _ _ _ _ h]
/-- An own node is turned: the parser's state stays. -/
theorem RSt.node {C : Ctx} {w0 w w' : World} {b b0 : Bool} {p p0 nb : Nat} (h0 : RSt C w0 b0 p0) (h : RSt C w b p) (hn : w0.heap.size ≤ nb) {v0 v1 v2 v3 : Value} (hB : Box4 w nb v0 v1 v2 v3) (hk : ∀ k, k ≠ nb → w'.heap[k]? = w.heap[k]?) : RSt C w' b p :=
  h.turn (fun g i u hu hx => by have := h0.xlt g i u hu hx; omega) (by have := h0.lt; omega) hB (by decide) fun k _ hn => hk k hn
theorem RSt.node1 {C : Ctx} {w0 w : World} {b b0 : Bool} {p p0 nb o : Nat} (h0 : RSt C w0 b0 p0) (h : RSt C w b p) (hn : w0.heap.size ≤ nb) {v v0 v1 v2 v3 : Value} (hB : Box4 w nb v0 v1 v2 v3) : RSt C (w.setCell ⟨nb, o, none⟩ v) b p :=
  h0.node h hn hB fun k hk => Below.heap_setCell w _ v k hk
theorem RSt.node4 {C : Ctx} {w0 w : World} {b b0 : Bool} {p p0 nb : Nat} (h0 : RSt C w0 b0 p0) (h : RSt C w b p) (hn : w0.heap.size ≤ nb) {u0 u1 u2 u3 v0 v1 v2 v3 : Value} (hB : Box4 w nb v0 v1 v2 v3) : RSt C ((((w.setCell ⟨nb, 0, none⟩ u0).setCell ⟨nb, 1, none⟩ u1).setCell ⟨nb, 2, none⟩ u2).setCell ⟨nb, 3, none⟩ u3) b p :=
  h0.node h hn hB fun _ hk => set4_oth hk

set_option maxHeartbeats 4000000 in
set_option maxRecDepth 100000 in
theorem rargs_any (C : Ctx) (ex : Nat → Res Nd) (hx : ROneQ C 87 ex) (f : Nat) (hf : f ≤ 8192) : ROne C 88 (argsO C.ts C.s.size ex f) := by
  intro w b p h hne
  have hpb := h.lt
  obtain ⟨R, hR⟩ : ∃ R, Tot (argsO C.ts C.s.size ex f) b p = R := ⟨_, rfl⟩
  have hT : R = (Tot (takeP C.ts C.s.size [40]) b p).bind fun a q => (rowG C.ts C.s.size ex f [41] q).bind fun l r => .ok (.mk 8 [] l a) r := by
    rw [← hR, ← tot_bind]
    rfl
  unfold RFinN
  rw [hR] at hne ⊢
  have HT := Lib.hid hT
  have HNE := Lib.hid hne
  have H0 := Lib.hid h
  have HHX := Lib.hid hx
  have hsz1 := World.size_alloc w zNode
  have hA : Below w.heap.size w ((w.alloc zNode).alloc (.cells #[.int .i64 8, .string ⟨#[]⟩, .slice none 0 0, .int .i64 0] 53)) := ((Below.refl _ _).alloc (Nat.le_refl _) _).alloc (by simp) _
  have HA := Lib.hid hA
  have B0 : Box4 ((w.alloc zNode).alloc (.cells #[.int .i64 8, .string ⟨#[]⟩, .slice none 0 0, .int .i64 0] 53)) w.heap.size (.int .i64 0) (.string ⟨#[]⟩) (.slice none 0 0) (.int .i64 0) := (Box4.new w (.int .i64 0) (.string ⟨#[]⟩) (.slice none 0 0) (.int .i64 0)).alloc _
  have B1 : Box4 ((w.alloc zNode).alloc (.cells #[.int .i64 8, .string ⟨#[]⟩, .slice none 0 0, .int .i64 0] 53)) (w.heap.size + 1) (.int .i64 8) (.string ⟨#[]⟩) (.slice none 0 0) (.int .i64 0) := by
    have := Box4.new (w.alloc zNode) (.int .i64 8) (.string ⟨#[]⟩) (.slice none 0 0) (.int .i64 0)
    rwa [hsz1] at this
  have hn0 : w.heap.size ≠ C.pb := by omega
  have hn1 : w.heap.size + 1 ≠ C.pb := by omega
  have c0 := rtake_x C b p [40] _ (h.below hA) _ fun w' ho => And.intro (B0.x ho hn0) (B1.x ho hn1)
  obtain ⟨pl, hpl⟩ : ∃ pl, placeT C.ts C.s.size p = pl := ⟨_, rfl⟩
  rw [hpl] at c0
  clear hR hT hne h hx hA B0 B1 hpl hsz1
  simp only [zNode] at c0
  go_enter Tryz.func88, Tryz.ntmps88
  go_wp2_with fail
  refine c0.mono ?_
  clear c0
  rintro e1 w1 ⟨b1, p1, hM1, rfl, hs1, ho1, ⟨⟨x0, x1, x2, x3, xf⟩, X⟩, ⟨y0, y1, y2, y3, yf⟩, Y⟩
  have hT1 : R = Tot (fun q => (rowG C.ts C.s.size ex f [41] q).bind fun l r => .ok (.mk 8 [] l (pl : Int)) r) b1 p1 := by
    rw [HT.out, hM1.bind]
  rw [tot_bind] at hT1
  have HT1 := Lib.hid hT1
  have hsw1 : w.heap.size + 2 ≤ w1.heap.size := by have := ho1.size; simpa using this
  have hS1 := H0.out.node1 (o := 3) (v := .int .i64 pl) hs1 (nb := w.heap.size + 1) (by omega) Y.out
  have hO1 := ((Ow.of_below HA.out).trans ho1).set (k := w.heap.size + 1) (o := 3) (v := .int .i64 pl) (by omega)
  have hX1 := X.out.other (k := w.heap.size + 1) (o := 3) (v := .int .i64 pl) (by omega)
  have hY1 := Y.out.set3 (v := .int .i64 pl)
  have c1 := rrow_x (rlist_any C ex HHX.out f hf [41] b1 p1 _ hS1 (fun e => HNE.out (by rw [hT1, e]; rfl))) _ fun w' ho => And.intro (hX1.x ho hn0) (hY1.x ho hn1)
  have HO1 := Lib.hid hO1
  clear hM1 hT1 hs1 ho1 x0 x1 x2 x3 xf X hS1 hO1 hX1 hY1
  go_wp2_with fail
  refine c1.mono ?_
  clear c1 y0 y1 y2 y3 yf Y
  rintro e2 w2 ⟨b2, p2, l, y, c, hM2, rfl, hk2, hs2, ho2, ⟨⟨x0, x1, x2, x3, xf⟩, X⟩, ⟨y0, y1, y2, y3, yf⟩, Y⟩
  have hsw2 : w.heap.size + 2 ≤ w2.heap.size := by have := ho2.size; simp at this; omega
  have hM : Mt R b2 p2 (.mk 8 [] l (pl : Int)) := by
    rw [HT1.out, hM2.bind]
    exact Mt.ret _ _ _
  have hS2 := H0.out.node1 (o := 2) (v := .slice y l.length c) hs2 (nb := w.heap.size + 1) (by omega) Y.out
  have hX2 := X.out.other (k := w.heap.size + 1) (o := 2) (v := .slice y l.length c) (by omega)
  have HS := Lib.hid (H0.out.node4 (u0 := .int .i64 8) (u1 := .string ⟨#[]⟩) (u2 := .slice y l.length c) (u3 := .int .i64 pl) hS2 (nb := w.heap.size) (Nat.le_refl _) hX2)
  have HO := Lib.hid (((HO1.out.trans ho2).set (k := w.heap.size + 1) (o := 2) (v := .slice y l.length c) (by omega)).set4 (k := w.heap.size) (v0 := .int .i64 8) (v1 := .string ⟨#[]⟩) (v2 := .slice y l.length c) (v3 := .int .i64 pl) (Nat.le_refl _))
  have HK : Hid (NdRow _ (fun j => w.heap.size ≤ j) l y) := Lib.hid ((((hk2.set (k := w.heap.size + 1) (o := 2) (v := .slice y l.length c) (fun j hj => by simp at hj; omega)).set4 (k := w.heap.size) (v0 := .int .i64 8) (v1 := .string ⟨#[]⟩) (v2 := .slice y l.length c) (v3 := .int .i64 pl) (fun j hj => by simp at hj; omega)).wide (ok' := fun j => w.heap.size ≤ j) (fun j hj _ => by simp at hj; omega)))
  have HM := Lib.hid hM
  clear hM hM2 hk2 hs2 ho2 hS2 hX2 X Y
  go_wp2_with fail
  exact ret_node rfl rfl rfl (by simp [go_sem, x0]) (by simp [go_sem, x1]) (by simp [go_sem, x2]) (by simp [go_sem, x3]) ⟨b2, p2, 8, [], l, pl, y, c, HM.out, rfl, HK.out, HS.out, HO.out⟩
end Go.Proofs.YtpbkeamjdolpgaaGreatDoor
