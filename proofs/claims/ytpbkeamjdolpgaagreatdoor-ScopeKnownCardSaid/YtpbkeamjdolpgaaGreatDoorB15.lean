/- The walk of the parser's statements. -/
import Derived.Test.YtpbkeamjdolpgaaGreatDoorB14
namespace Go.Proofs.YtpbkeamjdolpgaaGreatDoor
open Go.RowKit Go.Lib Go.Shelf

set_option maxHeartbeats 16000000 in
set_option maxRecDepth 100000 in
theorem stmt_any (C : Ctx) (ex st : Nat → Res Nd) (hx : OneT C 109 ex) (f : Nat) (hf : f ≤ 8192) (hb : OneT C 107 (blockO C.ts C.s.size st f)) : OneT C 60 (stmtO C.ts C.s.size ex st f) := by
  intro w p h _ hne
  have hmf : ∀ (fn : Fn) (first cap : Array Value) (w : World), (Instr.makeFunc fn first cap).run Tryz.prog w = .ok (.func fn first cap) w := fun _ _ _ _ => rfl
  have F2 := fld2
  have hpb := h.lt
  obtain ⟨pl, hpl⟩ : ∃ pl, placeT C.ts C.s.size p = pl := ⟨_, rfl⟩
  have hA : Ow C.pb w (w.alloc zNode) := (Ow.refl _ _).alloc _
  have hsA : PSt C (w.alloc zNode) p := h.below ((Below.refl _ _).alloc (Nat.le_refl _) _)
  have hne0 : w.heap.size ≠ C.pb := by omega
  have H0 := Lib.hid h
  have HA := Lib.hid hA
  obtain ⟨R, hR⟩ : ∃ R, stmtO C.ts C.s.size ex st f p = R := ⟨_, rfl⟩
  rw [hR] at hne ⊢
  have hR2 := hR.symm
  unfold stmtO at hR2
  simp only [hpl, wModule, wFunction, wFor, wIf, wElse] at hR2
  have HR := Lib.hid hR2
  have hZ : Box4 (w.alloc zNode) w.heap.size (.int .i64 0) (.string ⟨#[]⟩) (.slice none 0 0) (.int .i64 0) := Box4.new w _ _ _ _
  have c0 := token_x C p _ hsA _ (fun w1 ho => hZ.x ho hne0)
  rw [hpl] at c0
  have HNE := Lib.hid hne
  have HX : Hid (∀ q w1, PSt C w1 q → ex q ≠ .out → Calls Tryz.prog 109 #[.pointer (some ⟨C.pb, 0, none⟩)] w1 (FinN C w1 (ex q))) := fun q w1 hs hn => hx w1 q hs trivial hn
  have HBK : Hid (∀ q w1, PSt C w1 q → blockO C.ts C.s.size st f q ≠ .out → Calls Tryz.prog 107 #[.pointer (some ⟨C.pb, 0, none⟩)] w1 (FinN C w1 (blockO C.ts C.s.size st f q))) := fun q w1 hs hn => hb w1 q hs trivial hn
  have HPR : Hid (∀ q w1, PSt C w1 q → paramsP C.ts C.s.size f q ≠ .out → Calls Tryz.prog 106 #[.pointer (some ⟨C.pb, 0, none⟩)] w1 (FinN C w1 (paramsP C.ts C.s.size f q))) := fun q w1 hs hn => params_any C f hf q w1 hs hn
  have HAR : Hid (∀ q w1, PSt C w1 q → argsO C.ts C.s.size ex f q ≠ .out → Calls Tryz.prog 110 #[.pointer (some ⟨C.pb, 0, none⟩)] w1 (FinN C w1 (argsO C.ts C.s.size ex f q))) := fun q w1 hs hn => args_any C ex hx f hf w1 q hs trivial hn
  clear hR hR2 hne h hsA hx hb hZ hA hpl
  go_enter Tryz.func60, Tryz.ntmps60
  go_wp2_with fail
  refine c0.mono ?_
  clear c0
  rintro e w1 ⟨rfl, hs1, ho1, ⟨z0, z1, z2, z3, zf⟩, HZ⟩
  have hm := Mid.start H0.out ho1 hs1 0 pl
  have HM := Lib.hid hm
  clear z0 z1 z2 z3 zf HZ
  obtain ⟨⟨n0, n1, n2, n3, nf⟩, z0, z1, z2, z3, zf⟩ := hm.facts
  clear hm hs1 ho1 HA
  generalize hbn : w1.heap.size = bn at *
  go_wp2_with (first | (go_at_call 104; (first | (with_reducible refine (skip_m HM.out HR.out).mono ?_) | (with_reducible refine (skip_m (HM.out.set0 _) HR.out).mono ?_) | (with_reducible refine (skip_m (HM.out.set1 _) HR.out).mono ?_) | (with_reducible refine (skip_m ((HM.out.set0 _).set1 _) HR.out).mono ?_)); clear HM HR n0 n1 n2 n3 nf z0 z1 z2 z3 zf; rintro e w1 (⟨rfl, hr, hm⟩ | ⟨rfl, hr, hm⟩) <;> (have HR := Lib.hid hr; have HM := Lib.hid hm; obtain ⟨⟨n0, n1, n2, n3, nf⟩, z0, z1, z2, z3, zf⟩ := hm.facts; clear hr hm)) | (go_at_call 111; (first | (with_reducible refine (is_m HM.out HR.out).mono ?_) | (with_reducible refine (is_m (HM.out.set0 _) HR.out).mono ?_) | (with_reducible refine (is_m (HM.out.set1 _) HR.out).mono ?_) | (with_reducible refine (is_m ((HM.out.set0 _).set1 _) HR.out).mono ?_)); clear HM HR n0 n1 n2 n3 nf z0 z1 z2 z3 zf; rintro e w1 (⟨rfl, hr, hm⟩ | ⟨rfl, hr, hm⟩) <;> (have HR := Lib.hid hr; have HM := Lib.hid hm; obtain ⟨⟨n0, n1, n2, n3, nf⟩, z0, z1, z2, z3, zf⟩ := hm.facts; clear hr hm)) | (go_at_call 108; (first | (with_reducible refine (take_m HM.out HR.out).mono ?_) | (with_reducible refine (take_m (HM.out.set0 _) HR.out).mono ?_) | (with_reducible refine (take_m (HM.out.set1 _) HR.out).mono ?_) | (with_reducible refine (take_m ((HM.out.set0 _).set1 _) HR.out).mono ?_)); clear HM HR n0 n1 n2 n3 nf z0 z1 z2 z3 zf; rintro e w1 (⟨q', rfl, hr, hm⟩ | ⟨hr, b, hd1, rfl, hd3, hd4⟩) <;> (try (have HR := Lib.hid hr; have HM := Lib.hid hm; obtain ⟨⟨n0, n1, n2, n3, nf⟩, z0, z1, z2, z3, zf⟩ := hm.facts; clear hr hm))) | (go_at_call 105; (first | (with_reducible refine (name_m HM.out HR.out).mono ?_) | (with_reducible refine (name_m (HM.out.set0 _) HR.out).mono ?_) | (with_reducible refine (name_m (HM.out.set1 _) HR.out).mono ?_) | (with_reducible refine (name_m ((HM.out.set0 _).set1 _) HR.out).mono ?_)); clear HM HR n0 n1 n2 n3 nf z0 z1 z2 z3 zf; rintro e w1 (⟨q', nn, rfl, hr, hm⟩ | ⟨hr, b, hd1, rfl, hd3, hd4⟩) <;> (try (have HR := Lib.hid hr; have HM := Lib.hid hm; obtain ⟨⟨n0, n1, n2, n3, nf⟩, z0, z1, z2, z3, zf⟩ := hm.facts; clear hr hm))) | (go_at_call 106; (first | (with_reducible refine (node_m HM.out (fun hs hn => HPR.out _ _ hs hn) HR.out HNE.out).mono ?_) | (with_reducible refine (node_m (HM.out.set0 _) (fun hs hn => HPR.out _ _ hs hn) HR.out HNE.out).mono ?_) | (with_reducible refine (node_m (HM.out.set1 _) (fun hs hn => HPR.out _ _ hs hn) HR.out HNE.out).mono ?_) | (with_reducible refine (node_m ((HM.out.set0 _).set1 _) (fun hs hn => HPR.out _ _ hs hn) HR.out HNE.out).mono ?_)); clear HM HR n0 n1 n2 n3 nf z0 z1 z2 z3 zf; rintro e w1 (⟨k', n, kids, pk, y, c, q', hr, rfl, hk, hm⟩ | ⟨q', hr, b, hd1, rfl, hd3, hd4⟩) <;> (try (have HK := Lib.hid hk; clear hk; have HR := Lib.hid hr; have HM := Lib.hid hm; obtain ⟨⟨n0, n1, n2, n3, nf⟩, z0, z1, z2, z3, zf⟩ := hm.facts; clear hr hm))) | (go_at_call 109; (first | (with_reducible refine (node_m HM.out (fun hs hn => HX.out _ _ hs hn) HR.out HNE.out).mono ?_) | (with_reducible refine (node_m (HM.out.set0 _) (fun hs hn => HX.out _ _ hs hn) HR.out HNE.out).mono ?_) | (with_reducible refine (node_m (HM.out.set1 _) (fun hs hn => HX.out _ _ hs hn) HR.out HNE.out).mono ?_) | (with_reducible refine (node_m ((HM.out.set0 _).set1 _) (fun hs hn => HX.out _ _ hs hn) HR.out HNE.out).mono ?_)); clear HM HR n0 n1 n2 n3 nf z0 z1 z2 z3 zf; rintro e w1 (⟨k', n, kids, pk, y, c, q', hr, rfl, hk, hm⟩ | ⟨q', hr, b, hd1, rfl, hd3, hd4⟩) <;> (try (have HK := Lib.hid hk; clear hk; have HR := Lib.hid hr; have HM := Lib.hid hm; obtain ⟨⟨n0, n1, n2, n3, nf⟩, z0, z1, z2, z3, zf⟩ := hm.facts; clear hr hm))) | (go_at_call 107; (first | (with_reducible refine (node_m HM.out (fun hs hn => HBK.out _ _ hs hn) HR.out HNE.out).mono ?_) | (with_reducible refine (node_m (HM.out.set0 _) (fun hs hn => HBK.out _ _ hs hn) HR.out HNE.out).mono ?_) | (with_reducible refine (node_m (HM.out.set1 _) (fun hs hn => HBK.out _ _ hs hn) HR.out HNE.out).mono ?_) | (with_reducible refine (node_m ((HM.out.set0 _).set1 _) (fun hs hn => HBK.out _ _ hs hn) HR.out HNE.out).mono ?_)); clear HM HR n0 n1 n2 n3 nf z0 z1 z2 z3 zf; rintro e w1 (⟨k', n, kids, pk, y, c, q', hr, rfl, hk, hm⟩ | ⟨q', hr, b, hd1, rfl, hd3, hd4⟩) <;> (try (have HK := Lib.hid hk; clear hk; have HR := Lib.hid hr; have HM := Lib.hid hm; obtain ⟨⟨n0, n1, n2, n3, nf⟩, z0, z1, z2, z3, zf⟩ := hm.facts; clear hr hm))) | (go_at_call 110; (first | (with_reducible refine (node_m HM.out (fun hs hn => HAR.out _ _ hs hn) HR.out HNE.out).mono ?_) | (with_reducible refine (node_m (HM.out.set0 _) (fun hs hn => HAR.out _ _ hs hn) HR.out HNE.out).mono ?_) | (with_reducible refine (node_m (HM.out.set1 _) (fun hs hn => HAR.out _ _ hs hn) HR.out HNE.out).mono ?_) | (with_reducible refine (node_m ((HM.out.set0 _).set1 _) (fun hs hn => HAR.out _ _ hs hn) HR.out HNE.out).mono ?_)); clear HM HR n0 n1 n2 n3 nf z0 z1 z2 z3 zf; rintro e w1 (⟨k', n, kids, pk, y, c, q', hr, rfl, hk, hm⟩ | ⟨q', hr, b, hd1, rfl, hd3, hd4⟩) <;> (try (have HK := Lib.hid hk; clear hk; have HR := Lib.hid hr; have HM := Lib.hid hm; obtain ⟨⟨n0, n1, n2, n3, nf⟩, z0, z1, z2, z3, zf⟩ := hm.facts; clear hr hm))) | (go_at_call 103; (with_reducible refine (add_m HM.out (by simp) HK.out).mono ?_); clear HM HK n0 n1 n2 n3 nf z0 z1 z2 z3 zf; rintro e w1 ⟨rfl, va, m, vc, hm⟩; have HM := Lib.hid hm; obtain ⟨⟨n0, n1, n2, n3, nf⟩, z0, z1, z2, z3, zf⟩ := hm.facts; clear hm))
  all_goals (first | exact ⟨rfl, .inr ⟨_, hr, b, hd1, rfl, hd3, hd4⟩⟩ | exact ⟨rfl, .inr ⟨_, rfl, b, hd1, rfl, hd3, hd4⟩⟩ | skip)
  all_goals (refine ret_node rfl rfl rfl (by simp [go_sem, z0]) (by simp [go_sem, z1]) (by simp [go_sem, z2]) (by simp [go_sem, z3]) (HM.out.done4 (by simpa using HR.out)))
end Go.Proofs.YtpbkeamjdolpgaaGreatDoor
