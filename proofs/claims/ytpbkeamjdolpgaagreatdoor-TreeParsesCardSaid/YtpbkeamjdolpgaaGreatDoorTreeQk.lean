/- The walk of the reference's statements. -/
import Derived.Test.YtpbkeamjdolpgaaGreatDoorTreeQj
namespace Go.Proofs.YtpbkeamjdolpgaaGreatDoor
open Go.RowKit Go.Lib Go.Shelf

theorem stmt_def {C : Ctx} {ex st : Nat → Res Nd} {f : Nat} {b : Bool} {p : Nat} (h1 : (!b && isT C.ts p wModule) = false) (h2 : (!b && isT C.ts p wFunction) = false) (h3 : (!b && isT C.ts p wFor) = false) (h4 : (!b && isT C.ts p wIf) = false) :
    Tot (stmtO C.ts C.s.size ex st f) b p = (Tot (nameP C.ts) b p).bind fun s q => if isT C.ts q [61] then (ex (q + 1)).bind fun x r => (takeP C.ts C.s.size [59] r).bind fun _ e => .ok (.mk 1 s [x] (placeT C.ts C.s.size p)) e else (argsO C.ts C.s.size ex f q).bind fun x r => if isT C.ts r [123] then (blockO C.ts C.s.size st f r).bind fun y e => .ok (.mk 7 s [x, y] (placeT C.ts C.s.size p)) e else (takeP C.ts C.s.size [59] r).bind fun _ e => .ok (.mk 7 s [x] (placeT C.ts C.s.size p)) e := by
  cases b
  · simp only [Bool.not_false, Bool.true_and] at h1 h2 h3 h4
    rw [tot_go, tot_go, stmtO, h1, h2, h3, h4]
    rfl
  · rfl
set_option maxHeartbeats 4000000 in
set_option maxRecDepth 100000 in
theorem rstmt_any (C : Ctx) (ex st : Nat → Res Nd) (hx : ROneQ C 87 ex) (hb : ROneQ C 45 st) (f : Nat) (hf : f ≤ 8192) (hex : ∃ q, ex q ≠ .out) : ROne C 45 (stmtO C.ts C.s.size ex st f) := by
  intro w b p h hne
  obtain ⟨R, hR⟩ : ∃ R, Tot (stmtO C.ts C.s.size ex st f) b p = R := ⟨_, rfl⟩
  have HT : Hid (R = Tot (stmtO C.ts C.s.size ex st f) b p) := hj hR.symm
  rw [hR] at hne
  have HR := hj hR
  have HNE := hj hne
  have HHX := hj hx
  have HN248 : Hid (NSt C w w b p []) := NSt.start h
  clear hR hne h hx
  have HHB := hj hb
  have HEX := hj hex
  clear hb hex
  obtain ⟨i0, hi0, hz0, hz1, hz2⟩ := info_parts Tryz.infoNode
  go_enter Tryz.func45, Tryz.ntmps45
  go_upto_region 1 with (fail)
  have HN249 : Hid (NSt C w (World.alloc w (.cells #[.int .i64 0, .string ⟨#[]⟩, .slice none 0 0, .int .i64 0] 53)) b p [zB w.heap.size]) := hj (HN248.out.alloc _ _ _ _)
  clear HN248
  generalize World.alloc w (.cells #[.int .i64 0, .string ⟨#[]⟩, .slice none 0 0, .int .i64 0] 53) = W250 at HN249 ⊢
  have c251 := rplace_any C b p W250 HN249.out.st
  obtain ⟨pl252, hpl252⟩ : ∃ pl, placeT C.ts C.s.size p = pl := ⟨_, rfl⟩
  rw [hpl252] at c251
  have Hpl252 := hj hpl252
  clear hpl252
  go_wp2_with fail
  (with_reducible refine c251.mono ?_)
  clear c251
  rintro e V254 ⟨rfl, hb253⟩
  have hb253s := HN249.out.st.below hb253
  have hb253o : Ow C.pb W250 V254 := Ow.of_below hb253
  clear hb253
  have HN255 : Hid (NSt C w V254 b p [zB w.heap.size]) := hj (HN249.out.call hb253s hb253o)
  clear HN249 hb253o hb253s
  have HLT0 : Hid (w.heap.size < V254.heap.size ∧ C.pb < w.heap.size) := hj ⟨HN255.out.lt _ (List.Mem.head _), HN255.out.pb⟩
  go_upto_region 2 with (fail)
  have HN256 : Hid (NSt C w (World.alloc V254 (.cells #[.int .i64 0, .string ⟨#[]⟩, .slice none 0 0, .int .i64 pl252] 53)) b p [(V254.heap.size, .int .i64 0, .string ⟨#[]⟩, .slice none 0 0, .int .i64 pl252), zB w.heap.size]) := hj (HN255.out.alloc _ _ _ _)
  clear HN255
  generalize World.alloc V254 (.cells #[.int .i64 0, .string ⟨#[]⟩, .slice none 0 0, .int .i64 pl252] 53) = W257 at HN256 ⊢
  have HLO : Hid (w.heap.size < V254.heap.size ∧ w.heap.size ≤ w.heap.size ∧ C.pb < w.heap.size) := hj ⟨HLT0.out.1, Nat.le_refl _, HLT0.out.2⟩
  have c258 := ris_any C b p [109, 111, 100, 117, 108, 101] W257 HN256.out.st
  obtain ⟨E259, hE259⟩ : ∃ E, (!b && isT C.ts p [109, 111, 100, 117, 108, 101]) = E := ⟨_, rfl⟩
  rw [hE259] at c258
  have HE259 := hj hE259
  clear hE259
  go_wp2_with fail
  (with_reducible refine c258.mono ?_)
  clear c258
  rintro e V261 ⟨rfl, hb260⟩
  have hb260s := HN256.out.st.below hb260
  have hb260o : Ow C.pb W257 V261 := Ow.of_below hb260
  clear hb260
  have HN262 : Hid (NSt C w V261 b p [(V254.heap.size, .int .i64 0, .string ⟨#[]⟩, .slice none 0 0, .int .i64 pl252), zB w.heap.size]) := hj (HN256.out.call hb260s hb260o)
  clear HN256 hb260o hb260s
  have c263 := ris_any C b p [102, 117, 110, 99, 116, 105, 111, 110] V261 HN262.out.st
  obtain ⟨E264, hE264⟩ : ∃ E, (!b && isT C.ts p [102, 117, 110, 99, 116, 105, 111, 110]) = E := ⟨_, rfl⟩
  rw [hE264] at c263
  have HE264 := hj hE264
  clear hE264
  go_wp2_with fail
  (with_reducible refine c263.mono ?_)
  clear c263
  rintro e V266 ⟨rfl, hb265⟩
  have hb265s := HN262.out.st.below hb265
  have hb265o : Ow C.pb V261 V266 := Ow.of_below hb265
  clear hb265
  have HN267 : Hid (NSt C w V266 b p [(V254.heap.size, .int .i64 0, .string ⟨#[]⟩, .slice none 0 0, .int .i64 pl252), zB w.heap.size]) := hj (HN262.out.call hb265s hb265o)
  clear HN262 hb265o hb265s
  have c268 := ris_any C b p [102, 111, 114] V266 HN267.out.st
  obtain ⟨E269, hE269⟩ : ∃ E, (!b && isT C.ts p [102, 111, 114]) = E := ⟨_, rfl⟩
  rw [hE269] at c268
  have HE269 := hj hE269
  clear hE269
  go_wp2_with fail
  (with_reducible refine c268.mono ?_)
  clear c268
  rintro e V271 ⟨rfl, hb270⟩
  have hb270s := HN267.out.st.below hb270
  have hb270o : Ow C.pb V266 V271 := Ow.of_below hb270
  clear hb270
  have HN272 : Hid (NSt C w V271 b p [(V254.heap.size, .int .i64 0, .string ⟨#[]⟩, .slice none 0 0, .int .i64 pl252), zB w.heap.size]) := hj (HN267.out.call hb270s hb270o)
  clear HN267 hb270o hb270s
  have c273 := ris_any C b p [105, 102] V271 HN272.out.st
  obtain ⟨E274, hE274⟩ : ∃ E, (!b && isT C.ts p [105, 102]) = E := ⟨_, rfl⟩
  rw [hE274] at c273
  have HE274 := hj hE274
  clear hE274
  go_wp2_with fail
  (with_reducible refine c273.mono ?_)
  clear c273
  rintro e V276 ⟨rfl, hb275⟩
  have hb275s := HN272.out.st.below hb275
  have hb275o : Ow C.pb V271 V276 := Ow.of_below hb275
  clear hb275
  have HN277 : Hid (NSt C w V276 b p [(V254.heap.size, .int .i64 0, .string ⟨#[]⟩, .slice none 0 0, .int .i64 pl252), zB w.heap.size]) := hj (HN272.out.call hb275s hb275o)
  clear HN272 hb275o hb275s
  cases E259
  · cases E264
    · cases E269
      · cases E274
        · have HT1 : Hid (R = (Tot (nameP C.ts) b p).bind fun s q => if isT C.ts q [61] then (ex (q + 1)).bind fun x r => (takeP C.ts C.s.size [59] r).bind fun _ e => .ok (.mk 1 s [x] (pl252 : Int)) e else (argsO C.ts C.s.size ex f q).bind fun x r => if isT C.ts r [123] then (blockO C.ts C.s.size st f r).bind fun y e => .ok (.mk 7 s [x, y] (pl252 : Int)) e else (takeP C.ts C.s.size [59] r).bind fun _ e => .ok (.mk 7 s [x] (pl252 : Int)) e) := by
            show R = _
            rw [HT.out, stmt_def HE259.out HE264.out HE269.out HE274.out, Hpl252.out]
          clear HT
          have c278 := rnameq_any C b p V276 HN277.out.st
          go_wp2_with fail
          (with_reducible refine c278.mono ?_)
          clear c278
          rintro e V285 ⟨b279, q280, nm284, hM281, rfl, hs282, ho283⟩
          have HN286 : Hid (NSt C w V285 b279 q280 [(V254.heap.size, .int .i64 0, .string ⟨#[]⟩, .slice none 0 0, .int .i64 pl252), zB w.heap.size]) := hj (HN277.out.call hs282 ho283)
          clear HN277 ho283 hs282
          have HT2 : Hid (R = Tot (fun q => if isT C.ts q [61] then (ex (q + 1)).bind fun x r => (takeP C.ts C.s.size [59] r).bind fun _ e => .ok (.mk 1 nm284 [x] (pl252 : Int)) e else (argsO C.ts C.s.size ex f q).bind fun x r => if isT C.ts r [123] then (blockO C.ts C.s.size st f r).bind fun y e => .ok (.mk 7 nm284 [x, y] (pl252 : Int)) e else (takeP C.ts C.s.size [59] r).bind fun _ e => .ok (.mk 7 nm284 [x] (pl252 : Int)) e) b279 q280) := by
            show R = _
            rw [HT1.out, hM281.bind]
          clear hM281 HT1
          obtain ⟨n0, n1, n2, n3, nf⟩ : BoxF V285 (V254.heap.size) (.int .i64 0) (.string ⟨#[]⟩) (.slice none 0 0) (.int .i64 pl252) := HN286.out.at_ (List.Mem.head _)
          go_upto_region 7 with (fail)
          clear n0 n1 n2 n3 nf
          have HN287 : Hid (NSt C w (World.setCell V285 ⟨V254.heap.size, 1, none⟩ (.string ⟨nm284.toArray⟩)) b279 q280 [(V254.heap.size, .int .i64 0, .string ⟨nm284.toArray⟩, .slice none 0 0, .int .i64 pl252), zB w.heap.size]) := hj (NSt.set1 (pre := []) HN286.out)
          clear HN286
          generalize World.setCell V285 ⟨V254.heap.size, 1, none⟩ (.string ⟨nm284.toArray⟩) = W288 at HN287 ⊢
          have c289 := ris_any C b279 q280 [61] W288 HN287.out.st
          obtain ⟨E290, hE290⟩ : ∃ E, (!b279 && isT C.ts q280 [61]) = E := ⟨_, rfl⟩
          rw [hE290] at c289
          have HE290 := hj hE290
          clear hE290
          go_wp2_with fail
          (with_reducible refine c289.mono ?_)
          clear c289
          rintro e V292 ⟨rfl, hb291⟩
          have hb291s := HN287.out.st.below hb291
          have hb291o : Ow C.pb W288 V292 := Ow.of_below hb291
          clear hb291
          have HN293 : Hid (NSt C w V292 b279 q280 [(V254.heap.size, .int .i64 0, .string ⟨nm284.toArray⟩, .slice none 0 0, .int .i64 pl252), zB w.heap.size]) := hj (HN287.out.call hb291s hb291o)
          clear HN287 hb291o hb291s
          cases E290
          · have HT3 : Hid (R = (Tot (argsO C.ts C.s.size ex f) b279 q280).bind fun x r => if isT C.ts r [123] then (blockO C.ts C.s.size st f r).bind fun y e => .ok (.mk 7 nm284 [x, y] (pl252 : Int)) e else (takeP C.ts C.s.size [59] r).bind fun _ e => .ok (.mk 7 nm284 [x] (pl252 : Int)) e) := by
              show R = _
              rw [HT2.out, tot_if_f HE290.out, tot_bind]
            clear HT2
            obtain ⟨n0, n1, n2, n3, nf⟩ : BoxF V292 (V254.heap.size) (.int .i64 0) (.string ⟨nm284.toArray⟩) (.slice none 0 0) (.int .i64 pl252) := HN293.out.at_ (List.Mem.head _)
            go_upto_region 16 with (fail)
            clear n0 n1 n2 n3 nf
            have HN294 : Hid (NSt C w (World.setCell V292 ⟨V254.heap.size, 0, none⟩ (.int .i64 7)) b279 q280 [(V254.heap.size, .int .i64 7, .string ⟨nm284.toArray⟩, .slice none 0 0, .int .i64 pl252), zB w.heap.size]) := hj (NSt.set0 (pre := []) HN293.out)
            clear HN293
            generalize World.setCell V292 ⟨V254.heap.size, 0, none⟩ (.int .i64 7) = W295 at HN294 ⊢
            have c296 := rargs_any C ex HHX.out f hf _ _ _ HN294.out.st (fun e => HNE.out (by rw [HT3.out, e]; rfl))
            unfold RFinN at c296
            go_wp2_with fail
            (with_reducible refine c296.mono ?_)
            clear c296
            rintro e V309 ⟨b297, q298, k303, n304, l305, pp306, y307, cp308, hM299, rfl, hk302, hs300, ho301⟩
            have HN310 : Hid (NSt C w V309 b297 q298 [(V254.heap.size, .int .i64 7, .string ⟨nm284.toArray⟩, .slice none 0 0, .int .i64 pl252), zB w.heap.size]) := hj (HN294.out.call hs300 ho301)
            have HK311 : Hid (Rw (V254.heap.size + 1) V309 [V254.heap.size, w.heap.size] l305 y307) := hj (HN294.out.row (HN294.out.lt _ (List.Mem.head _)) hk302)
            clear HN294 ho301 hs300 hk302
            have HT4 : Hid (R = Tot (fun r => if isT C.ts r [123] then (blockO C.ts C.s.size st f r).bind fun y e => .ok (.mk 7 nm284 [(.mk k303 n304 l305 pp306), y] (pl252 : Int)) e else (takeP C.ts C.s.size [59] r).bind fun _ e => .ok (.mk 7 nm284 [(.mk k303 n304 l305 pp306)] (pl252 : Int)) e) b297 q298) := by
              show R = _
              rw [HT3.out, hM299.bind]
            clear hM299 HT3
            go_upto_region 17 with (fail)
            have HN312 : Hid (NSt C w (World.alloc V309 (.cells #[.int .i64 k303, .string ⟨n304.toArray⟩, .slice y307 l305.length cp308, .int .i64 pp306] 53)) b297 q298 [nB V309.heap.size k303 n304 y307 l305 cp308 pp306, (V254.heap.size, .int .i64 7, .string ⟨nm284.toArray⟩, .slice none 0 0, .int .i64 pl252), zB w.heap.size]) := hj (HN310.out.alloc _ _ _ _)
            have HK314 : Hid (Rw (V254.heap.size + 1) (World.alloc V309 (.cells #[.int .i64 k303, .string ⟨n304.toArray⟩, .slice y307 l305.length cp308, .int .i64 pp306] 53)) [V309.heap.size, V254.heap.size, w.heap.size] l305 y307) := hj (HK311.out.alloc _)
            clear HN310 HK311
            generalize World.alloc V309 (.cells #[.int .i64 k303, .string ⟨n304.toArray⟩, .slice y307 l305.length cp308, .int .i64 pp306] 53) = W313 at HN312 HK314 ⊢
            obtain ⟨u00, u01, u02, u03, u0f⟩ : BoxF W313 (V309.heap.size) (.int .i64 k303) (.string ⟨n304.toArray⟩) (.slice y307 l305.length cp308) (.int .i64 pp306) := HN312.out.at_ (List.Mem.head _)
            obtain ⟨n0, n1, n2, n3, nf⟩ : BoxF W313 (V254.heap.size) (.int .i64 7) (.string ⟨nm284.toArray⟩) (.slice none 0 0) (.int .i64 pl252) := HN312.out.at_ (List.Mem.tail _ (List.Mem.head _))
            have na0 := fun o => al_cell n0 o
            have na1 := fun o => al_cell n1 o
            have na2 := fun o => al_cell n2 o
            have na3 := fun o => al_cell n3 o
            have naf : ∀ ob o, (World.alloc W313 ob).frozen? ⟨V254.heap.size, o, none⟩ = false := fun ob o => ((HN312.out.bx _ (List.Mem.tail _ (List.Mem.head _))).2.alloc ob).facts.2.2.2.2 o
            go_upto_region 18 with (fail)
            clear n0 n1 n2 n3 nf u00 u01 u02 u03 u0f
            clear na0 na1 na2 na3 naf
            have HK315 : Hid (Rw (V254.heap.size + 1) (World.alloc W313 (.cells #[.int .i64 k303, .string ⟨n304.toArray⟩, .slice y307 l305.length cp308, .int .i64 pp306] 53)) [V309.heap.size, V254.heap.size, w.heap.size] [(.mk k303 n304 l305 pp306)] (some ⟨W313.heap.size, 0, none⟩)) := hj (Rw.one HN312.out (HN312.out.lt _ (List.Mem.tail _ (List.Mem.head _))) HK314.out)
            have HN316 : Hid (NSt C w (World.alloc W313 (.cells #[.int .i64 k303, .string ⟨n304.toArray⟩, .slice y307 l305.length cp308, .int .i64 pp306] 53)) b297 q298 [nB V309.heap.size k303 n304 y307 l305 cp308 pp306, (V254.heap.size, .int .i64 7, .string ⟨nm284.toArray⟩, .slice none 0 0, .int .i64 pl252), zB w.heap.size]) := hj (HN312.out.blk _)
            have HO317 : Hid (RowOwn (World.alloc W313 (.cells #[.int .i64 k303, .string ⟨n304.toArray⟩, .slice y307 l305.length cp308, .int .i64 pp306] 53)) (V254.heap.size + 1) (.slice (some ⟨W313.heap.size, 0, none⟩) 1 1) [(.mk k303 n304 l305 pp306)]) := hj (RowOwn.one (HN312.out.lt _ (List.Mem.tail _ (List.Mem.head _))) HK314.out.raw)
            clear HN312 HK314
            have HN318 : Hid (NSt C w (World.setCell (World.alloc W313 (.cells #[.int .i64 k303, .string ⟨n304.toArray⟩, .slice y307 l305.length cp308, .int .i64 pp306] 53)) ⟨V254.heap.size, 2, none⟩ (.slice (some ⟨W313.heap.size, 0, none⟩) 1 1)) b297 q298 [nB V309.heap.size k303 n304 y307 l305 cp308 pp306, (V254.heap.size, .int .i64 7, .string ⟨nm284.toArray⟩, .slice (some ⟨W313.heap.size, 0, none⟩) 1 1, .int .i64 pl252), zB w.heap.size]) := hj (NSt.set2 (pre := [nB V309.heap.size k303 n304 y307 l305 cp308 pp306]) HN316.out)
            have HK320 : Hid (Rw (V254.heap.size + 1) (World.setCell (World.alloc W313 (.cells #[.int .i64 k303, .string ⟨n304.toArray⟩, .slice y307 l305.length cp308, .int .i64 pp306] 53)) ⟨V254.heap.size, 2, none⟩ (.slice (some ⟨W313.heap.size, 0, none⟩) 1 1)) [V309.heap.size, V254.heap.size, w.heap.size] [(.mk k303 n304 l305 pp306)] (some ⟨W313.heap.size, 0, none⟩)) := hj (HK315.out.set (List.Mem.tail _ (List.Mem.head _)))
            have HO321 : Hid (RowOwn (World.setCell (World.alloc W313 (.cells #[.int .i64 k303, .string ⟨n304.toArray⟩, .slice y307 l305.length cp308, .int .i64 pp306] 53)) ⟨V254.heap.size, 2, none⟩ (.slice (some ⟨W313.heap.size, 0, none⟩) 1 1)) (V254.heap.size + 1) (.slice (some ⟨W313.heap.size, 0, none⟩) 1 1) [(.mk k303 n304 l305 pp306)]) := hj (HO317.out.set (Nat.lt_succ_self _))
            clear HN316 HK315 HO317
            generalize World.setCell (World.alloc W313 (.cells #[.int .i64 k303, .string ⟨n304.toArray⟩, .slice y307 l305.length cp308, .int .i64 pp306] 53)) ⟨V254.heap.size, 2, none⟩ (.slice (some ⟨W313.heap.size, 0, none⟩) 1 1) = W319 at HN318 HK320 HO321 ⊢
            have HN322 : Hid (NSt C w W319 b297 q298 [(V254.heap.size, .int .i64 7, .string ⟨nm284.toArray⟩, .slice (some ⟨W313.heap.size, 0, none⟩) 1 1, .int .i64 pl252), zB w.heap.size]) := hj (HN318.out.sub (List.Sublist.cons _ (List.Sublist.refl _)))
            clear HN318
            clear HK320
            have c323 := ris_any C b297 q298 [123] W319 HN322.out.st
            obtain ⟨E324, hE324⟩ : ∃ E, (!b297 && isT C.ts q298 [123]) = E := ⟨_, rfl⟩
            rw [hE324] at c323
            have HE324 := hj hE324
            clear hE324
            go_wp2_with fail
            (with_reducible refine c323.mono ?_)
            clear c323
            rintro e V326 ⟨rfl, hb325⟩
            have hb325s := HN322.out.st.below hb325
            have hb325o : Ow C.pb W319 V326 := Ow.of_below hb325
            clear hb325
            have HN327 : Hid (NSt C w V326 b297 q298 [(V254.heap.size, .int .i64 7, .string ⟨nm284.toArray⟩, .slice (some ⟨W313.heap.size, 0, none⟩) 1 1, .int .i64 pl252), zB w.heap.size]) := hj (HN322.out.call hb325s hb325o)
            have HO328 : Hid (RowOwn V326 (V254.heap.size + 1) (.slice (some ⟨W313.heap.size, 0, none⟩) 1 1) [(.mk k303 n304 l305 pp306)]) := hj (HO321.out.ow hb325o (Nat.lt_succ_of_le (Nat.le_of_lt (Nat.lt_of_lt_of_le HN322.out.pb (show w.heap.size ≤ V254.heap.size from (HN322.out.bx _ (List.Mem.head _)).1)))))
            clear HO321
            clear HN322 hb325o hb325s
            cases E324
            · have HO328r : Hid (Rw (V254.heap.size + 1) V326 [V254.heap.size, w.heap.size] [(.mk k303 n304 l305 pp306)] (some ⟨W313.heap.size, 0, none⟩)) := hj (Rw.of_own (n := 0) HO328.out (fun a ha => by have := HLO.out; simp only [List.mem_cons, List.not_mem_nil, or_false] at ha; rcases ha with rfl | rfl <;> omega)).1
              clear HO328
              have HT5 : Hid (R = (Tot (takeP C.ts C.s.size [59]) b297 q298).bind fun _ e => .ok (.mk 7 nm284 [(.mk k303 n304 l305 pp306)] (pl252 : Int)) e) := by
                show R = _
                rw [HT4.out, tot_if_f HE324.out, tot_bind]
              clear HT4
              have c329 := rtake_any C b297 q298 [59] V326 HN327.out.st
              obtain ⟨pl330, hpl330⟩ : ∃ pl, placeT C.ts C.s.size q298 = pl := ⟨_, rfl⟩
              rw [hpl330] at c329
              have Hpl330 := hj hpl330
              clear hpl330
              go_wp2_with fail
              (with_reducible refine c329.mono ?_)
              clear c329
              rintro e V337 ⟨b331, q332, a336, hM333, rfl, hs334, ho335⟩
              have hM333' := hM333.place
              rw [Hpl330.out] at hM333'
              clear hM333
              have HN338 : Hid (NSt C w V337 b331 q332 [(V254.heap.size, .int .i64 7, .string ⟨nm284.toArray⟩, .slice (some ⟨W313.heap.size, 0, none⟩) 1 1, .int .i64 pl252), zB w.heap.size]) := hj (HN327.out.call hs334 ho335)
              have HK339 : Hid (Rw (V254.heap.size + 1) V337 [V254.heap.size, w.heap.size] [(.mk k303 n304 l305 pp306)] (some ⟨W313.heap.size, 0, none⟩)) := hj (HO328r.out.call (Nat.lt_succ_of_le (Nat.le_of_lt (Nat.lt_of_lt_of_le HN327.out.pb (show w.heap.size ≤ V254.heap.size from (HN327.out.bx _ (List.Mem.head _)).1)))) ho335)
              clear HN327 HO328r ho335 hs334
              have HM : Hid (Mt R b331 q332 (.mk 7 nm284 [(.mk k303 n304 l305 pp306)] (pl252 : Int))) := by
                show Mt _ _ _ _
                rw [HT5.out, hM333'.bind]
                exact Mt.ret _ _ _
              clear hM333' HT5
              obtain ⟨n0, n1, n2, n3, nf⟩ : BoxF V337 (V254.heap.size) (.int .i64 7) (.string ⟨nm284.toArray⟩) (.slice (some ⟨W313.heap.size, 0, none⟩) 1 1) (.int .i64 pl252) := HN338.out.at_ (List.Mem.head _)
              obtain ⟨r0, r1, r2, r3, rf⟩ : BoxF V337 (w.heap.size) (.int .i64 0) (.string ⟨#[]⟩) (.slice none 0 0) (.int .i64 0) := HN338.out.at_ (List.Mem.tail _ (List.Mem.head _))
              have HN340 : Hid (NSt C w (S4 V337 w.heap.size (.int .i64 7) (.string ⟨nm284.toArray⟩) (.slice (some ⟨W313.heap.size, 0, none⟩) 1 1) (.int .i64 pl252)) b331 q332 [(V254.heap.size, .int .i64 7, .string ⟨nm284.toArray⟩, .slice (some ⟨W313.heap.size, 0, none⟩) 1 1, .int .i64 pl252), (w.heap.size, .int .i64 7, .string ⟨nm284.toArray⟩, .slice (some ⟨W313.heap.size, 0, none⟩) 1 1, .int .i64 pl252)]) := hj (NSt.set4 (pre := [(V254.heap.size, .int .i64 7, .string ⟨nm284.toArray⟩, .slice (some ⟨W313.heap.size, 0, none⟩) 1 1, .int .i64 pl252)]) HN338.out)
              have HK341 : Hid (Rw (V254.heap.size + 1) (S4 V337 w.heap.size (.int .i64 7) (.string ⟨nm284.toArray⟩) (.slice (some ⟨W313.heap.size, 0, none⟩) 1 1) (.int .i64 pl252)) [V254.heap.size, w.heap.size] [(.mk k303 n304 l305 pp306)] (some ⟨W313.heap.size, 0, none⟩)) := hj (HK339.out.set4 (List.Mem.tail _ (List.Mem.head _)))
              have HW : Hid (w.heap.size ≤ (V254.heap.size + 1)) := hj (Nat.le_succ_of_le (show w.heap.size ≤ V254.heap.size from (HN338.out.bx _ (List.Mem.head _)).1))
              have HF : Hid (RFinN C w (stmtO C.ts C.s.size ex st f) b p (.returned (.agg #[.int .i64 7, .string ⟨nm284.toArray⟩, .slice (some ⟨W313.heap.size, 0, none⟩) 1 1, .int .i64 pl252])) (S4 V337 w.heap.size (.int .i64 7) (.string ⟨nm284.toArray⟩) (.slice (some ⟨W313.heap.size, 0, none⟩) 1 1) (.int .i64 pl252))) := hj (NSt.fin (n := nm284) (l := [(.mk k303 n304 l305 pp306)]) HN340.out HW.out (by rw [HR.out]; exact HM.out) HK341.out)
              clear HN338 HN340 HW HM HK341 HK339
              go_wp2_with fail
              exact ret_node rfl rfl rfl (by simp [go_sem, r0]) (by simp [go_sem, r1]) (by simp [go_sem, r2]) (by simp [go_sem, r3]) HF.out
            · have HT5 : Hid (R = (Tot (blockO C.ts C.s.size st f) b297 q298).bind fun y e => .ok (.mk 7 nm284 [(.mk k303 n304 l305 pp306), y] (pl252 : Int)) e) := by
                show R = _
                rw [HT4.out, tot_if_t HE324.out, tot_bind]
              clear HT4
              have HL342 : Hid (∀ j, (Value.slice (some ⟨W313.heap.size, 0, none⟩) 1 1).ownBlock = some j → j < V326.heap.size) := by
                obtain ⟨xs0, h1, _⟩ := HO328.out
                exact fun j hj => (h1.lt j hj).2
              have hszr : V254.heap.size + 1 ≤ V326.heap.size := HN327.out.lt _ (List.Mem.head _)
              have c343 := rblock_any C st HHB.out f hf _ _ _ HN327.out.st (fun e => HNE.out (by rw [HT5.out, e]; rfl))
              unfold RFinN at c343
              go_wp2_with fail
              (with_reducible refine c343.mono ?_)
              clear c343
              rintro e V356 ⟨b344, q345, k346, n347, l348, pp349, y350, cp351, hM352, rfl, hk353, hs354, ho355⟩
              have HhM352 := hj hM352
              have Hhk353 := hj hk353
              clear hM352 hk353
              have HN357 : Hid (NSt C w V356 b344 q345 [(V254.heap.size, .int .i64 7, .string ⟨nm284.toArray⟩, .slice (some ⟨W313.heap.size, 0, none⟩) 1 1, .int .i64 pl252), zB w.heap.size]) := hj (HN327.out.call hs354 ho355)
              have HO358 : Hid (RowOwn V356 (V254.heap.size + 1) (.slice (some ⟨W313.heap.size, 0, none⟩) 1 1) [(.mk k303 n304 l305 pp306)]) := hj (HO328.out.ow ho355 (Nat.lt_succ_of_le (Nat.le_of_lt (Nat.lt_of_lt_of_le HN327.out.pb (show w.heap.size ≤ V254.heap.size from (HN327.out.bx _ (List.Mem.head _)).1)))))
              clear HO328
              clear HN327 ho355 hs354
              obtain ⟨n0, n1, n2, n3, nf⟩ : BoxF V356 (V254.heap.size) (.int .i64 7) (.string ⟨nm284.toArray⟩) (.slice (some ⟨W313.heap.size, 0, none⟩) 1 1) (.int .i64 pl252) := HN357.out.at_ (List.Mem.head _)
              have na0 := fun o => al_cell n0 o
              have na1 := fun o => al_cell n1 o
              have na2 := fun o => al_cell n2 o
              have na3 := fun o => al_cell n3 o
              have naf : ∀ ob o, (World.alloc V356 ob).frozen? ⟨V254.heap.size, o, none⟩ = false := fun ob o => ((HN357.out.bx _ (List.Mem.head _)).2.alloc ob).facts.2.2.2.2 o
              have hsz5 : V254.heap.size + 1 ≤ V356.heap.size := HN357.out.lt _ (List.Mem.head _)
              have hlo : ∀ x ∈ ([(V254.heap.size, .int .i64 7, .string ⟨nm284.toArray⟩, .slice (some ⟨W313.heap.size, 0, none⟩) 1 1, .int .i64 pl252), zB w.heap.size] : List Bx), x.1 < (V254.heap.size + 1) := fun x hx => by have := HLO.out; simp only [List.mem_cons, List.not_mem_nil, or_false] at hx; rcases hx with rfl | rfl <;> (try dsimp only [zB]) <;> omega
              have HLOW := hj hlo
              clear hlo
              have HWB : Hid (w.heap.size ≤ (V254.heap.size + 1)) := hj (Nat.le_succ_of_le (show w.heap.size ≤ V254.heap.size from (HN357.out.bx _ (List.Mem.head _)).1))
              go_wp2_with (at_builtin; refine Hold.out ?_)
              refine Hold.put ?_
              obtain ⟨xs, hown, hfl⟩ := HO358.out
              have hlt := fun j hj => hown.lt j hj
              refine wpList_append_fresh _ rfl (.tmp 68) (.tmp 70) 22 rfl (V254.heap.size + 1) 53 i0 (.agg #[.int .i64 0, .string ⟨#[]⟩, .slice none 0 0, .int .i64 0]) 4 56 Tryz.underlying22 hi0 hz0 hz1 hz2 rfl (by decide) _ 1 _ rfl ((hown.alloc _).alloc _) ⟨V356.heap.size + 1, 0, none⟩ 1 1 [.int .i64 k346, .string ⟨n347.toArray⟩, .slice y350 l348.length cp351, .int .i64 pp349] rfl rfl (by rw [show (V356.heap.size + 1) = (V356.alloc (.cells #[.int .i64 k346, .string ⟨n347.toArray⟩, .slice y350 l348.length cp351, .int .i64 pp349] 53)).heap.size by simp]; exact cell_four_new _ _ _ _ _ _) (fun x hx => by simp at hx; rcases hx with rfl | rfl | rfl | rfl <;> rfl) (by unfold maxLen; omega) (by omega) (by simp; omega) ?_
              intro v' w6 hown' hgrow hfresh
              obtain ⟨va', vc', hv', hN6, hR6⟩ := NSt.app (S := V326.heap.size) (acc := [(.mk k303 n304 l305 pp306)]) HN357.out HLOW.out HWB.out (((Below.refl _ _).alloc (Nat.le_refl _) _).alloc (by simp) _) hown hfl Hhk353.out HL342.out (by omega) hown' hgrow hfresh
              obtain rfl : v' = .slice va' 2 vc' := hv'
              obtain ⟨z0, z1, z2, z3, zf⟩ : BoxF w6 V254.heap.size (.int .i64 7) (.string ⟨nm284.toArray⟩) (.slice (some ⟨W313.heap.size, 0, none⟩) 1 1) (.int .i64 pl252) := hN6.at_ (List.Mem.head _)
              have HN6 := hj hN6
              have HR6 := hj hR6
              clear hN6 hR6 hown hfl hlt hown' hgrow hfresh hszr hsz5
              clear HO358 HN357
              clear n0 n1 n2 n3 nf
              clear na0 na1 na2 na3 naf
              go_upto_region 22 with (fail)
              have HR7 : Hid (RowOwn (World.setCell w6 ⟨V254.heap.size, 2, none⟩ (.slice va' 2 vc')) (V254.heap.size + 1) (.slice va' 2 vc') ([(.mk k303 n304 l305 pp306)] ++ [(Nd.mk k346 n347 l348 pp349)])) := hj (HR6.out.set (Nat.lt_succ_self _))
              clear HR6 z0 z1 z2 z3 zf
              have HN7 : Hid (NSt C w (World.setCell w6 ⟨V254.heap.size, 2, none⟩ (.slice va' 2 vc')) b344 q345 [(V254.heap.size, .int .i64 7, .string ⟨nm284.toArray⟩, .slice va' 2 vc', .int .i64 pl252), zB w.heap.size]) := hj (NSt.set2 (pre := []) HN6.out)
              clear HN6
              generalize World.setCell w6 ⟨V254.heap.size, 2, none⟩ (.slice va' 2 vc') = w7 at HN7 HR7 ⊢
              have HK359 : Hid (Rw (V254.heap.size + 1) w7 [V254.heap.size, w.heap.size] ([(.mk k303 n304 l305 pp306)] ++ [(Nd.mk k346 n347 l348 pp349)]) va') := hj (Rw.of_own (n := 0) HR7.out (fun a ha => by have := HLO.out; simp only [List.mem_cons, List.not_mem_nil, or_false] at ha; rcases ha with rfl | rfl <;> omega)).1
              clear HR7
              have HM : Hid (Mt R b344 q345 (.mk 7 nm284 [(.mk k303 n304 l305 pp306), (Nd.mk k346 n347 l348 pp349)] (pl252 : Int))) := by
                show Mt _ _ _ _
                rw [HT5.out, HhM352.out.bind]
                exact Mt.ret _ _ _
              clear HhM352 HT5
              obtain ⟨n0, n1, n2, n3, nf⟩ : BoxF w7 (V254.heap.size) (.int .i64 7) (.string ⟨nm284.toArray⟩) (.slice va' 2 vc') (.int .i64 pl252) := HN7.out.at_ (List.Mem.head _)
              obtain ⟨r0, r1, r2, r3, rf⟩ : BoxF w7 (w.heap.size) (.int .i64 0) (.string ⟨#[]⟩) (.slice none 0 0) (.int .i64 0) := HN7.out.at_ (List.Mem.tail _ (List.Mem.head _))
              have HN360 : Hid (NSt C w (S4 w7 w.heap.size (.int .i64 7) (.string ⟨nm284.toArray⟩) (.slice va' 2 vc') (.int .i64 pl252)) b344 q345 [(V254.heap.size, .int .i64 7, .string ⟨nm284.toArray⟩, .slice va' 2 vc', .int .i64 pl252), (w.heap.size, .int .i64 7, .string ⟨nm284.toArray⟩, .slice va' 2 vc', .int .i64 pl252)]) := hj (NSt.set4 (pre := [(V254.heap.size, .int .i64 7, .string ⟨nm284.toArray⟩, .slice va' 2 vc', .int .i64 pl252)]) HN7.out)
              have HK361 : Hid (Rw (V254.heap.size + 1) (S4 w7 w.heap.size (.int .i64 7) (.string ⟨nm284.toArray⟩) (.slice va' 2 vc') (.int .i64 pl252)) [V254.heap.size, w.heap.size] ([(.mk k303 n304 l305 pp306)] ++ [(Nd.mk k346 n347 l348 pp349)]) va') := hj (HK359.out.set4 (List.Mem.tail _ (List.Mem.head _)))
              have HW : Hid (w.heap.size ≤ (V254.heap.size + 1)) := hj (Nat.le_succ_of_le (show w.heap.size ≤ V254.heap.size from (HN7.out.bx _ (List.Mem.head _)).1))
              have HF : Hid (RFinN C w (stmtO C.ts C.s.size ex st f) b p (.returned (.agg #[.int .i64 7, .string ⟨nm284.toArray⟩, .slice va' 2 vc', .int .i64 pl252])) (S4 w7 w.heap.size (.int .i64 7) (.string ⟨nm284.toArray⟩) (.slice va' 2 vc') (.int .i64 pl252))) := hj (NSt.fin (n := nm284) (l := ([(.mk k303 n304 l305 pp306)] ++ [(Nd.mk k346 n347 l348 pp349)])) HN360.out HW.out (by rw [HR.out]; exact HM.out) HK361.out)
              clear HN7 HN360 HW HM HK361 HK359
              go_wp2_with fail
              exact ret_node rfl rfl rfl (by simp [go_sem, r0]) (by simp [go_sem, r1]) (by simp [go_sem, r2]) (by simp [go_sem, r3]) HF.out
          · obtain ⟨rfl, hHI⟩ : b279 = false ∧ isT C.ts q280 [61] = true := by
              have := HE290.out
              cases b279 <;> simp_all
            have HI := hj hHI
            clear hHI
            have HT3 : Hid (R = (Tot ex false (q280 + 1)).bind fun x r => (takeP C.ts C.s.size [59] r).bind fun _ e => .ok (.mk 1 nm284 [x] (pl252 : Int)) e) := by
              show R = _
              rw [HT2.out, tot_go, if_pos HI.out]
              rfl
            clear HT2
            obtain ⟨x3621, x3622, x3623, x3624⟩ : V292.cell? ⟨C.pb, 2, none⟩ = some (.int .i64 q280) ∧ V292.frozen? ⟨C.pb, 2, none⟩ = false ∧ q280 < C.ts.length ∧ C.ts.length ≤ 4096 := ⟨HN293.out.st.cellsF.2.2.1, HN293.out.st.cellsF.2.2.2.2.1, isT_lt HI.out, HN293.out.st.len⟩
            have x3625 : IntKind.i64.wrap ((q280 : Int) + 1) = (q280 : Int) + 1 := IntWalk.i64_in _ (by omega)
            have x3626 := hj x3623
            clear x3623 x3624
            go_upto_region 10 with (fail)
            clear x3621 x3622 x3625
            have HN363 : Hid (NSt C w (World.setCell V292 ⟨C.pb, 2, none⟩ (.int .i64 ((q280 : Int) + 1))) false (q280 + 1) [(V254.heap.size, .int .i64 0, .string ⟨nm284.toArray⟩, .slice none 0 0, .int .i64 pl252), zB w.heap.size]) := hj (HN293.out.step (q := q280 + 1) x3626.out)
            clear HN293
            generalize World.setCell V292 ⟨C.pb, 2, none⟩ (.int .i64 ((q280 : Int) + 1)) = W364 at HN363 ⊢
            obtain ⟨n0, n1, n2, n3, nf⟩ : BoxF W364 (V254.heap.size) (.int .i64 0) (.string ⟨nm284.toArray⟩) (.slice none 0 0) (.int .i64 pl252) := HN363.out.at_ (List.Mem.head _)
            go_upto_region 11 with (fail)
            clear n0 n1 n2 n3 nf
            have HN365 : Hid (NSt C w (World.setCell W364 ⟨V254.heap.size, 0, none⟩ (.int .i64 1)) false (q280 + 1) [(V254.heap.size, .int .i64 1, .string ⟨nm284.toArray⟩, .slice none 0 0, .int .i64 pl252), zB w.heap.size]) := hj (NSt.set0 (pre := []) HN363.out)
            clear HN363
            generalize World.setCell W364 ⟨V254.heap.size, 0, none⟩ (.int .i64 1) = W366 at HN365 ⊢
            have c367 := HHX.out _ _ _ HN365.out.st (fun e => HNE.out (by rw [HT3.out, e]; rfl)) HEX.out
            unfold RFinN at c367
            go_wp2_with fail
            (with_reducible refine c367.mono ?_)
            clear c367
            rintro e V380 ⟨b368, q369, k374, n375, l376, pp377, y378, cp379, hM370, rfl, hk373, hs371, ho372⟩
            have HN381 : Hid (NSt C w V380 b368 q369 [(V254.heap.size, .int .i64 1, .string ⟨nm284.toArray⟩, .slice none 0 0, .int .i64 pl252), zB w.heap.size]) := hj (HN365.out.call hs371 ho372)
            have HK382 : Hid (Rw (V254.heap.size + 1) V380 [V254.heap.size, w.heap.size] l376 y378) := hj (HN365.out.row (HN365.out.lt _ (List.Mem.head _)) hk373)
            clear HN365 ho372 hs371 hk373
            have HT4 : Hid (R = (Tot (takeP C.ts C.s.size [59]) b368 q369).bind fun _ e => .ok (.mk 1 nm284 [(.mk k374 n375 l376 pp377)] (pl252 : Int)) e) := by
              show R = _
              rw [HT3.out, hM370.bind, ← tot_bind]
            clear hM370 HT3
            go_upto_region 12 with (fail)
            have HN383 : Hid (NSt C w (World.alloc V380 (.cells #[.int .i64 k374, .string ⟨n375.toArray⟩, .slice y378 l376.length cp379, .int .i64 pp377] 53)) b368 q369 [nB V380.heap.size k374 n375 y378 l376 cp379 pp377, (V254.heap.size, .int .i64 1, .string ⟨nm284.toArray⟩, .slice none 0 0, .int .i64 pl252), zB w.heap.size]) := hj (HN381.out.alloc _ _ _ _)
            have HK385 : Hid (Rw (V254.heap.size + 1) (World.alloc V380 (.cells #[.int .i64 k374, .string ⟨n375.toArray⟩, .slice y378 l376.length cp379, .int .i64 pp377] 53)) [V380.heap.size, V254.heap.size, w.heap.size] l376 y378) := hj (HK382.out.alloc _)
            clear HN381 HK382
            generalize World.alloc V380 (.cells #[.int .i64 k374, .string ⟨n375.toArray⟩, .slice y378 l376.length cp379, .int .i64 pp377] 53) = W384 at HN383 HK385 ⊢
            have c386 := rtake_any C b368 q369 [59] W384 HN383.out.st
            obtain ⟨pl387, hpl387⟩ : ∃ pl, placeT C.ts C.s.size q369 = pl := ⟨_, rfl⟩
            rw [hpl387] at c386
            have Hpl387 := hj hpl387
            clear hpl387
            go_wp2_with fail
            (with_reducible refine c386.mono ?_)
            clear c386
            rintro e V394 ⟨b388, q389, a393, hM390, rfl, hs391, ho392⟩
            have hM390' := hM390.place
            rw [Hpl387.out] at hM390'
            clear hM390
            have HN395 : Hid (NSt C w V394 b388 q389 [nB V380.heap.size k374 n375 y378 l376 cp379 pp377, (V254.heap.size, .int .i64 1, .string ⟨nm284.toArray⟩, .slice none 0 0, .int .i64 pl252), zB w.heap.size]) := hj (HN383.out.call hs391 ho392)
            have HK396 : Hid (Rw (V254.heap.size + 1) V394 [V380.heap.size, V254.heap.size, w.heap.size] l376 y378) := hj (HK385.out.call (Nat.lt_succ_of_le (Nat.le_of_lt (Nat.lt_of_lt_of_le HN383.out.pb (show w.heap.size ≤ V254.heap.size from (HN383.out.bx _ (List.Mem.tail _ (List.Mem.head _))).1)))) ho392)
            clear HN383 HK385 ho392 hs391
            have HM : Hid (Mt R b388 q389 (.mk 1 nm284 [(.mk k374 n375 l376 pp377)] (pl252 : Int))) := by
              show Mt _ _ _ _
              rw [HT4.out, hM390'.bind]
              exact Mt.ret _ _ _
            clear hM390' HT4
            obtain ⟨u00, u01, u02, u03, u0f⟩ : BoxF V394 (V380.heap.size) (.int .i64 k374) (.string ⟨n375.toArray⟩) (.slice y378 l376.length cp379) (.int .i64 pp377) := HN395.out.at_ (List.Mem.head _)
            obtain ⟨n0, n1, n2, n3, nf⟩ : BoxF V394 (V254.heap.size) (.int .i64 1) (.string ⟨nm284.toArray⟩) (.slice none 0 0) (.int .i64 pl252) := HN395.out.at_ (List.Mem.tail _ (List.Mem.head _))
            have na0 := fun o => al_cell n0 o
            have na1 := fun o => al_cell n1 o
            have na2 := fun o => al_cell n2 o
            have na3 := fun o => al_cell n3 o
            have naf : ∀ ob o, (World.alloc V394 ob).frozen? ⟨V254.heap.size, o, none⟩ = false := fun ob o => ((HN395.out.bx _ (List.Mem.tail _ (List.Mem.head _))).2.alloc ob).facts.2.2.2.2 o
            go_upto_region 14 with (fail)
            clear n0 n1 n2 n3 nf u00 u01 u02 u03 u0f
            clear na0 na1 na2 na3 naf
            have HK397 : Hid (Rw (V254.heap.size + 1) (World.alloc V394 (.cells #[.int .i64 k374, .string ⟨n375.toArray⟩, .slice y378 l376.length cp379, .int .i64 pp377] 53)) [V380.heap.size, V254.heap.size, w.heap.size] [(.mk k374 n375 l376 pp377)] (some ⟨V394.heap.size, 0, none⟩)) := hj (Rw.one HN395.out (HN395.out.lt _ (List.Mem.tail _ (List.Mem.head _))) HK396.out)
            have HN398 : Hid (NSt C w (World.alloc V394 (.cells #[.int .i64 k374, .string ⟨n375.toArray⟩, .slice y378 l376.length cp379, .int .i64 pp377] 53)) b388 q389 [nB V380.heap.size k374 n375 y378 l376 cp379 pp377, (V254.heap.size, .int .i64 1, .string ⟨nm284.toArray⟩, .slice none 0 0, .int .i64 pl252), zB w.heap.size]) := hj (HN395.out.blk _)
            clear HN395 HK396
            have HN399 : Hid (NSt C w (World.setCell (World.alloc V394 (.cells #[.int .i64 k374, .string ⟨n375.toArray⟩, .slice y378 l376.length cp379, .int .i64 pp377] 53)) ⟨V254.heap.size, 2, none⟩ (.slice (some ⟨V394.heap.size, 0, none⟩) 1 1)) b388 q389 [nB V380.heap.size k374 n375 y378 l376 cp379 pp377, (V254.heap.size, .int .i64 1, .string ⟨nm284.toArray⟩, .slice (some ⟨V394.heap.size, 0, none⟩) 1 1, .int .i64 pl252), zB w.heap.size]) := hj (NSt.set2 (pre := [nB V380.heap.size k374 n375 y378 l376 cp379 pp377]) HN398.out)
            have HK401 : Hid (Rw (V254.heap.size + 1) (World.setCell (World.alloc V394 (.cells #[.int .i64 k374, .string ⟨n375.toArray⟩, .slice y378 l376.length cp379, .int .i64 pp377] 53)) ⟨V254.heap.size, 2, none⟩ (.slice (some ⟨V394.heap.size, 0, none⟩) 1 1)) [V380.heap.size, V254.heap.size, w.heap.size] [(.mk k374 n375 l376 pp377)] (some ⟨V394.heap.size, 0, none⟩)) := hj (HK397.out.set (List.Mem.tail _ (List.Mem.head _)))
            clear HN398 HK397
            generalize World.setCell (World.alloc V394 (.cells #[.int .i64 k374, .string ⟨n375.toArray⟩, .slice y378 l376.length cp379, .int .i64 pp377] 53)) ⟨V254.heap.size, 2, none⟩ (.slice (some ⟨V394.heap.size, 0, none⟩) 1 1) = W400 at HN399 HK401 ⊢
            obtain ⟨n0, n1, n2, n3, nf⟩ : BoxF W400 (V254.heap.size) (.int .i64 1) (.string ⟨nm284.toArray⟩) (.slice (some ⟨V394.heap.size, 0, none⟩) 1 1) (.int .i64 pl252) := HN399.out.at_ (List.Mem.tail _ (List.Mem.head _))
            obtain ⟨r0, r1, r2, r3, rf⟩ : BoxF W400 (w.heap.size) (.int .i64 0) (.string ⟨#[]⟩) (.slice none 0 0) (.int .i64 0) := HN399.out.at_ (List.Mem.tail _ (List.Mem.tail _ (List.Mem.head _)))
            have HN402 : Hid (NSt C w (S4 W400 w.heap.size (.int .i64 1) (.string ⟨nm284.toArray⟩) (.slice (some ⟨V394.heap.size, 0, none⟩) 1 1) (.int .i64 pl252)) b388 q389 [nB V380.heap.size k374 n375 y378 l376 cp379 pp377, (V254.heap.size, .int .i64 1, .string ⟨nm284.toArray⟩, .slice (some ⟨V394.heap.size, 0, none⟩) 1 1, .int .i64 pl252), (w.heap.size, .int .i64 1, .string ⟨nm284.toArray⟩, .slice (some ⟨V394.heap.size, 0, none⟩) 1 1, .int .i64 pl252)]) := hj (NSt.set4 (pre := [nB V380.heap.size k374 n375 y378 l376 cp379 pp377, (V254.heap.size, .int .i64 1, .string ⟨nm284.toArray⟩, .slice (some ⟨V394.heap.size, 0, none⟩) 1 1, .int .i64 pl252)]) HN399.out)
            have HK403 : Hid (Rw (V254.heap.size + 1) (S4 W400 w.heap.size (.int .i64 1) (.string ⟨nm284.toArray⟩) (.slice (some ⟨V394.heap.size, 0, none⟩) 1 1) (.int .i64 pl252)) [V380.heap.size, V254.heap.size, w.heap.size] [(.mk k374 n375 l376 pp377)] (some ⟨V394.heap.size, 0, none⟩)) := hj (HK401.out.set4 (List.Mem.tail _ (List.Mem.tail _ (List.Mem.head _))))
            have HW : Hid (w.heap.size ≤ (V254.heap.size + 1)) := hj (Nat.le_succ_of_le (show w.heap.size ≤ V254.heap.size from (HN399.out.bx _ (List.Mem.tail _ (List.Mem.head _))).1))
            have HF : Hid (RFinN C w (stmtO C.ts C.s.size ex st f) b p (.returned (.agg #[.int .i64 1, .string ⟨nm284.toArray⟩, .slice (some ⟨V394.heap.size, 0, none⟩) 1 1, .int .i64 pl252])) (S4 W400 w.heap.size (.int .i64 1) (.string ⟨nm284.toArray⟩) (.slice (some ⟨V394.heap.size, 0, none⟩) 1 1) (.int .i64 pl252))) := hj (NSt.fin (n := nm284) (l := [(.mk k374 n375 l376 pp377)]) HN402.out HW.out (by rw [HR.out]; exact HM.out) HK403.out)
            clear HN399 HN402 HW HM HK403 HK401
            go_wp2_with fail
            exact ret_node rfl rfl rfl (by simp [go_sem, r0]) (by simp [go_sem, r1]) (by simp [go_sem, r2]) (by simp [go_sem, r3]) HF.out
        · obtain ⟨rfl, hHI⟩ : b = false ∧ isT C.ts p [105, 102] = true := by
            have := HE274.out
            cases b <;> simp_all
          have HI := hj hHI
          clear hHI
          have HT1 : Hid (R = (Tot (takeP C.ts C.s.size [40]) false (p + 1)).bind fun _ q => (ex q).bind fun x r => (takeP C.ts C.s.size [41] r).bind fun _ r1 => (blockO C.ts C.s.size st f r1).bind fun y r2 => if isT C.ts r2 wElse then (blockO C.ts C.s.size st f (r2 + 1)).bind fun z e => .ok (.mk 6 [] [x, y, z] (pl252 : Int)) e else .ok (.mk 6 [] [x, y] (pl252 : Int)) r2) := by
            show R = _
            have n0 : isT C.ts p wModule = false := by
              have := (show (!false && isT C.ts p wModule) = false from HE259.out)
              simpa using this
            have n1 : isT C.ts p wFunction = false := by
              have := (show (!false && isT C.ts p wFunction) = false from HE264.out)
              simpa using this
            have n2 : isT C.ts p wFor = false := by
              have := (show (!false && isT C.ts p wFor) = false from HE269.out)
              simpa using this
            rw [HT.out, tot_go, stmtO, if_neg (by rw [n0]; decide), if_neg (by rw [n1]; decide), if_neg (by rw [n2]; decide), if_pos (show isT C.ts p wIf = true from HI.out), Hpl252.out]
            rfl
          clear HT
          obtain ⟨x4041, x4042, x4043, x4044⟩ : V276.cell? ⟨C.pb, 2, none⟩ = some (.int .i64 p) ∧ V276.frozen? ⟨C.pb, 2, none⟩ = false ∧ p < C.ts.length ∧ C.ts.length ≤ 4096 := ⟨HN277.out.st.cellsF.2.2.1, HN277.out.st.cellsF.2.2.2.2.1, isT_lt HI.out, HN277.out.st.len⟩
          have x4045 : IntKind.i64.wrap ((p : Int) + 1) = (p : Int) + 1 := IntWalk.i64_in _ (by omega)
          have x4046 := hj x4043
          clear x4043 x4044
          go_upto_region 52 with (fail)
          clear x4041 x4042 x4045
          have HN405 : Hid (NSt C w (World.setCell V276 ⟨C.pb, 2, none⟩ (.int .i64 ((p : Int) + 1))) false (p + 1) [(V254.heap.size, .int .i64 0, .string ⟨#[]⟩, .slice none 0 0, .int .i64 pl252), zB w.heap.size]) := hj (HN277.out.step (q := p + 1) x4046.out)
          clear HN277
          generalize World.setCell V276 ⟨C.pb, 2, none⟩ (.int .i64 ((p : Int) + 1)) = W406 at HN405 ⊢
          obtain ⟨n0, n1, n2, n3, nf⟩ : BoxF W406 (V254.heap.size) (.int .i64 0) (.string ⟨#[]⟩) (.slice none 0 0) (.int .i64 pl252) := HN405.out.at_ (List.Mem.head _)
          go_upto_region 53 with (fail)
          clear n0 n1 n2 n3 nf
          have HN407 : Hid (NSt C w (World.setCell W406 ⟨V254.heap.size, 0, none⟩ (.int .i64 6)) false (p + 1) [(V254.heap.size, .int .i64 6, .string ⟨#[]⟩, .slice none 0 0, .int .i64 pl252), zB w.heap.size]) := hj (NSt.set0 (pre := []) HN405.out)
          clear HN405
          generalize World.setCell W406 ⟨V254.heap.size, 0, none⟩ (.int .i64 6) = W408 at HN407 ⊢
          have c409 := rtake_any C false (p + 1) [40] W408 HN407.out.st
          obtain ⟨pl410, hpl410⟩ : ∃ pl, placeT C.ts C.s.size (p + 1) = pl := ⟨_, rfl⟩
          rw [hpl410] at c409
          have Hpl410 := hj hpl410
          clear hpl410
          go_wp2_with fail
          (with_reducible refine c409.mono ?_)
          clear c409
          rintro e V417 ⟨b411, q412, a416, hM413, rfl, hs414, ho415⟩
          have hM413' := hM413.place
          rw [Hpl410.out] at hM413'
          clear hM413
          have HN418 : Hid (NSt C w V417 b411 q412 [(V254.heap.size, .int .i64 6, .string ⟨#[]⟩, .slice none 0 0, .int .i64 pl252), zB w.heap.size]) := hj (HN407.out.call hs414 ho415)
          clear HN407 ho415 hs414
          have HT2 : Hid (R = (Tot ex b411 q412).bind fun x r => (takeP C.ts C.s.size [41] r).bind fun _ r1 => (blockO C.ts C.s.size st f r1).bind fun y r2 => if isT C.ts r2 wElse then (blockO C.ts C.s.size st f (r2 + 1)).bind fun z e => .ok (.mk 6 [] [x, y, z] (pl252 : Int)) e else .ok (.mk 6 [] [x, y] (pl252 : Int)) r2) := by
            show R = _
            rw [HT1.out, hM413'.bind, ← tot_bind]
          clear hM413' HT1
          have c419 := HHX.out _ _ _ HN418.out.st (fun e => HNE.out (by rw [HT2.out, e]; rfl)) HEX.out
          unfold RFinN at c419
          go_wp2_with fail
          (with_reducible refine c419.mono ?_)
          clear c419
          rintro e V432 ⟨b420, q421, k426, n427, l428, pp429, y430, cp431, hM422, rfl, hk425, hs423, ho424⟩
          have HN433 : Hid (NSt C w V432 b420 q421 [(V254.heap.size, .int .i64 6, .string ⟨#[]⟩, .slice none 0 0, .int .i64 pl252), zB w.heap.size]) := hj (HN418.out.call hs423 ho424)
          have HK434 : Hid (Rw (V254.heap.size + 1) V432 [V254.heap.size, w.heap.size] l428 y430) := hj (HN418.out.row (HN418.out.lt _ (List.Mem.head _)) hk425)
          clear HN418 ho424 hs423 hk425
          have HT3 : Hid (R = (Tot (takeP C.ts C.s.size [41]) b420 q421).bind fun _ r1 => (blockO C.ts C.s.size st f r1).bind fun y r2 => if isT C.ts r2 wElse then (blockO C.ts C.s.size st f (r2 + 1)).bind fun z e => .ok (.mk 6 [] [(.mk k426 n427 l428 pp429), y, z] (pl252 : Int)) e else .ok (.mk 6 [] [(.mk k426 n427 l428 pp429), y] (pl252 : Int)) r2) := by
            show R = _
            rw [HT2.out, hM422.bind, ← tot_bind]
          clear hM422 HT2
          go_upto_region 55 with (fail)
          have HN435 : Hid (NSt C w (World.alloc V432 (.cells #[.int .i64 k426, .string ⟨n427.toArray⟩, .slice y430 l428.length cp431, .int .i64 pp429] 53)) b420 q421 [nB V432.heap.size k426 n427 y430 l428 cp431 pp429, (V254.heap.size, .int .i64 6, .string ⟨#[]⟩, .slice none 0 0, .int .i64 pl252), zB w.heap.size]) := hj (HN433.out.alloc _ _ _ _)
          have HK437 : Hid (Rw (V254.heap.size + 1) (World.alloc V432 (.cells #[.int .i64 k426, .string ⟨n427.toArray⟩, .slice y430 l428.length cp431, .int .i64 pp429] 53)) [V432.heap.size, V254.heap.size, w.heap.size] l428 y430) := hj (HK434.out.alloc _)
          clear HN433 HK434
          generalize World.alloc V432 (.cells #[.int .i64 k426, .string ⟨n427.toArray⟩, .slice y430 l428.length cp431, .int .i64 pp429] 53) = W436 at HN435 HK437 ⊢
          have c438 := rtake_any C b420 q421 [41] W436 HN435.out.st
          obtain ⟨pl439, hpl439⟩ : ∃ pl, placeT C.ts C.s.size q421 = pl := ⟨_, rfl⟩
          rw [hpl439] at c438
          have Hpl439 := hj hpl439
          clear hpl439
          go_wp2_with fail
          (with_reducible refine c438.mono ?_)
          clear c438
          rintro e V446 ⟨b440, q441, a445, hM442, rfl, hs443, ho444⟩
          have hM442' := hM442.place
          rw [Hpl439.out] at hM442'
          clear hM442
          have HN447 : Hid (NSt C w V446 b440 q441 [nB V432.heap.size k426 n427 y430 l428 cp431 pp429, (V254.heap.size, .int .i64 6, .string ⟨#[]⟩, .slice none 0 0, .int .i64 pl252), zB w.heap.size]) := hj (HN435.out.call hs443 ho444)
          have HK448 : Hid (Rw (V254.heap.size + 1) V446 [V432.heap.size, V254.heap.size, w.heap.size] l428 y430) := hj (HK437.out.call (Nat.lt_succ_of_le (Nat.le_of_lt (Nat.lt_of_lt_of_le HN435.out.pb (show w.heap.size ≤ V254.heap.size from (HN435.out.bx _ (List.Mem.tail _ (List.Mem.head _))).1)))) ho444)
          clear HN435 HK437 ho444 hs443
          have HT4 : Hid (R = (Tot (blockO C.ts C.s.size st f) b440 q441).bind fun y r2 => if isT C.ts r2 wElse then (blockO C.ts C.s.size st f (r2 + 1)).bind fun z e => .ok (.mk 6 [] [(.mk k426 n427 l428 pp429), y, z] (pl252 : Int)) e else .ok (.mk 6 [] [(.mk k426 n427 l428 pp429), y] (pl252 : Int)) r2) := by
            show R = _
            rw [HT3.out, hM442'.bind, ← tot_bind]
          clear hM442' HT3
          have c449 := rblock_any C st HHB.out f hf _ _ _ HN447.out.st (fun e => HNE.out (by rw [HT4.out, e]; rfl))
          unfold RFinN at c449
          go_wp2_with fail
          (with_reducible refine c449.mono ?_)
          clear c449
          rintro e V462 ⟨b450, q451, k456, n457, l458, pp459, y460, cp461, hM452, rfl, hk455, hs453, ho454⟩
          have HN463 : Hid (NSt C w V462 b450 q451 [nB V432.heap.size k426 n427 y430 l428 cp431 pp429, (V254.heap.size, .int .i64 6, .string ⟨#[]⟩, .slice none 0 0, .int .i64 pl252), zB w.heap.size]) := hj (HN447.out.call hs453 ho454)
          have HK464 : Hid (Rw (V254.heap.size + 1) V462 [V432.heap.size, V254.heap.size, w.heap.size] l428 y430) := hj (HK448.out.call (Nat.lt_succ_of_le (Nat.le_of_lt (Nat.lt_of_lt_of_le HN447.out.pb (show w.heap.size ≤ V254.heap.size from (HN447.out.bx _ (List.Mem.tail _ (List.Mem.head _))).1)))) ho454)
          have HK465 : Hid (Rw (V254.heap.size + 1) V462 [V432.heap.size, V254.heap.size, w.heap.size] l458 y460) := hj (HN447.out.row (HN447.out.lt _ (List.Mem.tail _ (List.Mem.head _))) hk455)
          clear HN447 HK448 ho454 hs453 hk455
          have HT5 : Hid (R = Tot (fun r2 => if isT C.ts r2 wElse then (blockO C.ts C.s.size st f (r2 + 1)).bind fun z e => .ok (.mk 6 [] [(.mk k426 n427 l428 pp429), (.mk k456 n457 l458 pp459), z] (pl252 : Int)) e else .ok (.mk 6 [] [(.mk k426 n427 l428 pp429), (.mk k456 n457 l458 pp459)] (pl252 : Int)) r2) b450 q451) := by
            show R = _
            rw [HT4.out, hM452.bind]
          clear hM452 HT4
          go_upto_region 57 with (fail)
          have HN466 : Hid (NSt C w (World.alloc V462 (.cells #[.int .i64 k456, .string ⟨n457.toArray⟩, .slice y460 l458.length cp461, .int .i64 pp459] 53)) b450 q451 [nB V462.heap.size k456 n457 y460 l458 cp461 pp459, nB V432.heap.size k426 n427 y430 l428 cp431 pp429, (V254.heap.size, .int .i64 6, .string ⟨#[]⟩, .slice none 0 0, .int .i64 pl252), zB w.heap.size]) := hj (HN463.out.alloc _ _ _ _)
          have HK468 : Hid (Rw (V254.heap.size + 1) (World.alloc V462 (.cells #[.int .i64 k456, .string ⟨n457.toArray⟩, .slice y460 l458.length cp461, .int .i64 pp459] 53)) [V462.heap.size, V432.heap.size, V254.heap.size, w.heap.size] l428 y430) := hj (HK464.out.alloc _)
          have HK469 : Hid (Rw (V254.heap.size + 1) (World.alloc V462 (.cells #[.int .i64 k456, .string ⟨n457.toArray⟩, .slice y460 l458.length cp461, .int .i64 pp459] 53)) [V462.heap.size, V432.heap.size, V254.heap.size, w.heap.size] l458 y460) := hj (HK465.out.alloc _)
          clear HN463 HK464 HK465
          generalize World.alloc V462 (.cells #[.int .i64 k456, .string ⟨n457.toArray⟩, .slice y460 l458.length cp461, .int .i64 pp459] 53) = W467 at HN466 HK468 HK469 ⊢
          obtain ⟨u00, u01, u02, u03, u0f⟩ : BoxF W467 (V432.heap.size) (.int .i64 k426) (.string ⟨n427.toArray⟩) (.slice y430 l428.length cp431) (.int .i64 pp429) := HN466.out.at_ (List.Mem.tail _ (List.Mem.head _))
          obtain ⟨u10, u11, u12, u13, u1f⟩ : BoxF W467 (V462.heap.size) (.int .i64 k456) (.string ⟨n457.toArray⟩) (.slice y460 l458.length cp461) (.int .i64 pp459) := HN466.out.at_ (List.Mem.head _)
          obtain ⟨n0, n1, n2, n3, nf⟩ : BoxF W467 (V254.heap.size) (.int .i64 6) (.string ⟨#[]⟩) (.slice none 0 0) (.int .i64 pl252) := HN466.out.at_ (List.Mem.tail _ (List.Mem.tail _ (List.Mem.head _)))
          have na0 := fun o => al_cell n0 o
          have na1 := fun o => al_cell n1 o
          have na2 := fun o => al_cell n2 o
          have na3 := fun o => al_cell n3 o
          have naf : ∀ ob o, (World.alloc W467 ob).frozen? ⟨V254.heap.size, o, none⟩ = false := fun ob o => ((HN466.out.bx _ (List.Mem.tail _ (List.Mem.tail _ (List.Mem.head _)))).2.alloc ob).facts.2.2.2.2 o
          go_upto_region 58 with (fail)
          clear n0 n1 n2 n3 nf u00 u01 u02 u03 u0f u10 u11 u12 u13 u1f
          clear na0 na1 na2 na3 naf
          have HK470 : Hid (Rw (V254.heap.size + 1) (World.alloc W467 (.cells #[.int .i64 k426, .string ⟨n427.toArray⟩, .slice y430 l428.length cp431, .int .i64 pp429, .int .i64 k456, .string ⟨n457.toArray⟩, .slice y460 l458.length cp461, .int .i64 pp459] 53)) [V462.heap.size, V432.heap.size, V254.heap.size, w.heap.size] [(.mk k426 n427 l428 pp429), (.mk k456 n457 l458 pp459)] (some ⟨W467.heap.size, 0, none⟩)) := hj (Rw.two HN466.out (HN466.out.lt _ (List.Mem.tail _ (List.Mem.tail _ (List.Mem.head _)))) HK468.out HK469.out)
          have HN471 : Hid (NSt C w (World.alloc W467 (.cells #[.int .i64 k426, .string ⟨n427.toArray⟩, .slice y430 l428.length cp431, .int .i64 pp429, .int .i64 k456, .string ⟨n457.toArray⟩, .slice y460 l458.length cp461, .int .i64 pp459] 53)) b450 q451 [nB V462.heap.size k456 n457 y460 l458 cp461 pp459, nB V432.heap.size k426 n427 y430 l428 cp431 pp429, (V254.heap.size, .int .i64 6, .string ⟨#[]⟩, .slice none 0 0, .int .i64 pl252), zB w.heap.size]) := hj (HN466.out.blk _)
          have HO472 : Hid (RowOwn (World.alloc W467 (.cells #[.int .i64 k426, .string ⟨n427.toArray⟩, .slice y430 l428.length cp431, .int .i64 pp429, .int .i64 k456, .string ⟨n457.toArray⟩, .slice y460 l458.length cp461, .int .i64 pp459] 53)) (V254.heap.size + 1) (.slice (some ⟨W467.heap.size, 0, none⟩) 2 2) [(.mk k426 n427 l428 pp429), (.mk k456 n457 l458 pp459)]) := hj (RowOwn.two (HN466.out.lt _ (List.Mem.tail _ (List.Mem.tail _ (List.Mem.head _)))) HK468.out.raw HK469.out.raw)
          clear HN466 HK468 HK469
          have HN473 : Hid (NSt C w (World.setCell (World.alloc W467 (.cells #[.int .i64 k426, .string ⟨n427.toArray⟩, .slice y430 l428.length cp431, .int .i64 pp429, .int .i64 k456, .string ⟨n457.toArray⟩, .slice y460 l458.length cp461, .int .i64 pp459] 53)) ⟨V254.heap.size, 2, none⟩ (.slice (some ⟨W467.heap.size, 0, none⟩) 2 2)) b450 q451 [nB V462.heap.size k456 n457 y460 l458 cp461 pp459, nB V432.heap.size k426 n427 y430 l428 cp431 pp429, (V254.heap.size, .int .i64 6, .string ⟨#[]⟩, .slice (some ⟨W467.heap.size, 0, none⟩) 2 2, .int .i64 pl252), zB w.heap.size]) := hj (NSt.set2 (pre := [nB V462.heap.size k456 n457 y460 l458 cp461 pp459, nB V432.heap.size k426 n427 y430 l428 cp431 pp429]) HN471.out)
          have HK475 : Hid (Rw (V254.heap.size + 1) (World.setCell (World.alloc W467 (.cells #[.int .i64 k426, .string ⟨n427.toArray⟩, .slice y430 l428.length cp431, .int .i64 pp429, .int .i64 k456, .string ⟨n457.toArray⟩, .slice y460 l458.length cp461, .int .i64 pp459] 53)) ⟨V254.heap.size, 2, none⟩ (.slice (some ⟨W467.heap.size, 0, none⟩) 2 2)) [V462.heap.size, V432.heap.size, V254.heap.size, w.heap.size] [(.mk k426 n427 l428 pp429), (.mk k456 n457 l458 pp459)] (some ⟨W467.heap.size, 0, none⟩)) := hj (HK470.out.set (List.Mem.tail _ (List.Mem.tail _ (List.Mem.head _))))
          have HO476 : Hid (RowOwn (World.setCell (World.alloc W467 (.cells #[.int .i64 k426, .string ⟨n427.toArray⟩, .slice y430 l428.length cp431, .int .i64 pp429, .int .i64 k456, .string ⟨n457.toArray⟩, .slice y460 l458.length cp461, .int .i64 pp459] 53)) ⟨V254.heap.size, 2, none⟩ (.slice (some ⟨W467.heap.size, 0, none⟩) 2 2)) (V254.heap.size + 1) (.slice (some ⟨W467.heap.size, 0, none⟩) 2 2) [(.mk k426 n427 l428 pp429), (.mk k456 n457 l458 pp459)]) := hj (HO472.out.set (Nat.lt_succ_self _))
          clear HN471 HK470 HO472
          generalize World.setCell (World.alloc W467 (.cells #[.int .i64 k426, .string ⟨n427.toArray⟩, .slice y430 l428.length cp431, .int .i64 pp429, .int .i64 k456, .string ⟨n457.toArray⟩, .slice y460 l458.length cp461, .int .i64 pp459] 53)) ⟨V254.heap.size, 2, none⟩ (.slice (some ⟨W467.heap.size, 0, none⟩) 2 2) = W474 at HN473 HK475 HO476 ⊢
          have HN477 : Hid (NSt C w W474 b450 q451 [(V254.heap.size, .int .i64 6, .string ⟨#[]⟩, .slice (some ⟨W467.heap.size, 0, none⟩) 2 2, .int .i64 pl252), zB w.heap.size]) := hj (HN473.out.sub (List.Sublist.cons _ (List.Sublist.cons _ (List.Sublist.refl _))))
          clear HN473
          clear HK475
          have c478 := ris_any C b450 q451 [101, 108, 115, 101] W474 HN477.out.st
          obtain ⟨E479, hE479⟩ : ∃ E, (!b450 && isT C.ts q451 [101, 108, 115, 101]) = E := ⟨_, rfl⟩
          rw [hE479] at c478
          have HE479 := hj hE479
          clear hE479
          go_wp2_with fail
          (with_reducible refine c478.mono ?_)
          clear c478
          rintro e V481 ⟨rfl, hb480⟩
          have hb480s := HN477.out.st.below hb480
          have hb480o : Ow C.pb W474 V481 := Ow.of_below hb480
          clear hb480
          have HN482 : Hid (NSt C w V481 b450 q451 [(V254.heap.size, .int .i64 6, .string ⟨#[]⟩, .slice (some ⟨W467.heap.size, 0, none⟩) 2 2, .int .i64 pl252), zB w.heap.size]) := hj (HN477.out.call hb480s hb480o)
          have HO483 : Hid (RowOwn V481 (V254.heap.size + 1) (.slice (some ⟨W467.heap.size, 0, none⟩) 2 2) [(.mk k426 n427 l428 pp429), (.mk k456 n457 l458 pp459)]) := hj (HO476.out.ow hb480o (Nat.lt_succ_of_le (Nat.le_of_lt (Nat.lt_of_lt_of_le HN477.out.pb (show w.heap.size ≤ V254.heap.size from (HN477.out.bx _ (List.Mem.head _)).1)))))
          clear HO476
          clear HN477 hb480o hb480s
          cases E479
          · have HO483r : Hid (Rw (V254.heap.size + 1) V481 [V254.heap.size, w.heap.size] [(.mk k426 n427 l428 pp429), (.mk k456 n457 l458 pp459)] (some ⟨W467.heap.size, 0, none⟩)) := hj (Rw.of_own (n := 0) HO483.out (fun a ha => by have := HLO.out; simp only [List.mem_cons, List.not_mem_nil, or_false] at ha; rcases ha with rfl | rfl <;> omega)).1
            clear HO483
            have HM : Hid (Mt R b450 q451 (.mk 6 [] [(.mk k426 n427 l428 pp429), (.mk k456 n457 l458 pp459)] (pl252 : Int))) := by
              show Mt _ _ _ _
              rw [HT5.out, tot_if_f (show (!b450 && isT C.ts q451 wElse) = false from HE479.out)]
              exact Mt.ret _ _ _
            clear HT5
            obtain ⟨n0, n1, n2, n3, nf⟩ : BoxF V481 (V254.heap.size) (.int .i64 6) (.string ⟨#[]⟩) (.slice (some ⟨W467.heap.size, 0, none⟩) 2 2) (.int .i64 pl252) := HN482.out.at_ (List.Mem.head _)
            obtain ⟨r0, r1, r2, r3, rf⟩ : BoxF V481 (w.heap.size) (.int .i64 0) (.string ⟨#[]⟩) (.slice none 0 0) (.int .i64 0) := HN482.out.at_ (List.Mem.tail _ (List.Mem.head _))
            have HN484 : Hid (NSt C w (S4 V481 w.heap.size (.int .i64 6) (.string ⟨#[]⟩) (.slice (some ⟨W467.heap.size, 0, none⟩) 2 2) (.int .i64 pl252)) b450 q451 [(V254.heap.size, .int .i64 6, .string ⟨#[]⟩, .slice (some ⟨W467.heap.size, 0, none⟩) 2 2, .int .i64 pl252), (w.heap.size, .int .i64 6, .string ⟨#[]⟩, .slice (some ⟨W467.heap.size, 0, none⟩) 2 2, .int .i64 pl252)]) := hj (NSt.set4 (pre := [(V254.heap.size, .int .i64 6, .string ⟨#[]⟩, .slice (some ⟨W467.heap.size, 0, none⟩) 2 2, .int .i64 pl252)]) HN482.out)
            have HK485 : Hid (Rw (V254.heap.size + 1) (S4 V481 w.heap.size (.int .i64 6) (.string ⟨#[]⟩) (.slice (some ⟨W467.heap.size, 0, none⟩) 2 2) (.int .i64 pl252)) [V254.heap.size, w.heap.size] [(.mk k426 n427 l428 pp429), (.mk k456 n457 l458 pp459)] (some ⟨W467.heap.size, 0, none⟩)) := hj (HO483r.out.set4 (List.Mem.tail _ (List.Mem.head _)))
            have HW : Hid (w.heap.size ≤ (V254.heap.size + 1)) := hj (Nat.le_succ_of_le (show w.heap.size ≤ V254.heap.size from (HN482.out.bx _ (List.Mem.head _)).1))
            have HF : Hid (RFinN C w (stmtO C.ts C.s.size ex st f) false p (.returned (.agg #[.int .i64 6, .string ⟨#[]⟩, .slice (some ⟨W467.heap.size, 0, none⟩) 2 2, .int .i64 pl252])) (S4 V481 w.heap.size (.int .i64 6) (.string ⟨#[]⟩) (.slice (some ⟨W467.heap.size, 0, none⟩) 2 2) (.int .i64 pl252))) := hj (NSt.fin (n := []) (l := [(.mk k426 n427 l428 pp429), (.mk k456 n457 l458 pp459)]) HN484.out HW.out (by rw [HR.out]; exact HM.out) HK485.out)
            clear HN482 HN484 HW HM HK485 HO483r
            go_wp2_with fail
            exact ret_node rfl rfl rfl (by simp [go_sem, r0]) (by simp [go_sem, r1]) (by simp [go_sem, r2]) (by simp [go_sem, r3]) HF.out
          · obtain ⟨rfl, hHI5⟩ : b450 = false ∧ isT C.ts q451 [101, 108, 115, 101] = true := by
              have := HE479.out
              cases b450 <;> simp_all
            have HI5 := hj hHI5
            clear hHI5
            have HT6 : Hid (R = (Tot (blockO C.ts C.s.size st f) false (q451 + 1)).bind fun z e => .ok (.mk 6 [] [(.mk k426 n427 l428 pp429), (.mk k456 n457 l458 pp459), z] (pl252 : Int)) e) := by
              show R = _
              rw [HT5.out, tot_go, if_pos (show isT C.ts q451 wElse = true from HI5.out)]
              rfl
            clear HT5
            obtain ⟨x4861, x4862, x4863, x4864⟩ : V481.cell? ⟨C.pb, 2, none⟩ = some (.int .i64 q451) ∧ V481.frozen? ⟨C.pb, 2, none⟩ = false ∧ q451 < C.ts.length ∧ C.ts.length ≤ 4096 := ⟨HN482.out.st.cellsF.2.2.1, HN482.out.st.cellsF.2.2.2.2.1, isT_lt HI5.out, HN482.out.st.len⟩
            have x4865 : IntKind.i64.wrap ((q451 : Int) + 1) = (q451 : Int) + 1 := IntWalk.i64_in _ (by omega)
            have x4866 := hj x4863
            clear x4863 x4864
            go_upto_region 61 with (fail)
            clear x4861 x4862 x4865
            have HN487 : Hid (NSt C w (World.setCell V481 ⟨C.pb, 2, none⟩ (.int .i64 ((q451 : Int) + 1))) false (q451 + 1) [(V254.heap.size, .int .i64 6, .string ⟨#[]⟩, .slice (some ⟨W467.heap.size, 0, none⟩) 2 2, .int .i64 pl252), zB w.heap.size]) := hj (HN482.out.step (q := q451 + 1) x4866.out)
            have HO489 : Hid (RowOwn (World.setCell V481 ⟨C.pb, 2, none⟩ (.int .i64 ((q451 : Int) + 1))) (V254.heap.size + 1) (.slice (some ⟨W467.heap.size, 0, none⟩) 2 2) [(.mk k426 n427 l428 pp429), (.mk k456 n457 l458 pp459)]) := hj (HO483.out.ow ((Ow.refl _ _).setCell (a := ⟨C.pb, 2, none⟩) (.inl rfl) _) (Nat.lt_succ_of_le (Nat.le_of_lt (Nat.lt_of_lt_of_le HN482.out.pb (show w.heap.size ≤ V254.heap.size from (HN482.out.bx _ (List.Mem.head _)).1)))))
            clear HN482 HO483
            generalize World.setCell V481 ⟨C.pb, 2, none⟩ (.int .i64 ((q451 : Int) + 1)) = W488 at HN487 HO489 ⊢
            have HL490 : Hid (∀ j, (Value.slice (some ⟨W467.heap.size, 0, none⟩) 2 2).ownBlock = some j → j < W488.heap.size) := by
              obtain ⟨xs0, h1, _⟩ := HO489.out
              exact fun j hj => (h1.lt j hj).2
            have hszr : V254.heap.size + 1 ≤ W488.heap.size := HN487.out.lt _ (List.Mem.head _)
            have c491 := rblock_any C st HHB.out f hf _ _ _ HN487.out.st (fun e => HNE.out (by rw [HT6.out, e]; rfl))
            unfold RFinN at c491
            go_wp2_with fail
            (with_reducible refine c491.mono ?_)
            clear c491
            rintro e V504 ⟨b492, q493, k494, n495, l496, pp497, y498, cp499, hM500, rfl, hk501, hs502, ho503⟩
            have HhM500 := hj hM500
            have Hhk501 := hj hk501
            clear hM500 hk501
            have HN505 : Hid (NSt C w V504 b492 q493 [(V254.heap.size, .int .i64 6, .string ⟨#[]⟩, .slice (some ⟨W467.heap.size, 0, none⟩) 2 2, .int .i64 pl252), zB w.heap.size]) := hj (HN487.out.call hs502 ho503)
            have HO506 : Hid (RowOwn V504 (V254.heap.size + 1) (.slice (some ⟨W467.heap.size, 0, none⟩) 2 2) [(.mk k426 n427 l428 pp429), (.mk k456 n457 l458 pp459)]) := hj (HO489.out.ow ho503 (Nat.lt_succ_of_le (Nat.le_of_lt (Nat.lt_of_lt_of_le HN487.out.pb (show w.heap.size ≤ V254.heap.size from (HN487.out.bx _ (List.Mem.head _)).1)))))
            clear HO489
            clear HN487 ho503 hs502
            obtain ⟨n0, n1, n2, n3, nf⟩ : BoxF V504 (V254.heap.size) (.int .i64 6) (.string ⟨#[]⟩) (.slice (some ⟨W467.heap.size, 0, none⟩) 2 2) (.int .i64 pl252) := HN505.out.at_ (List.Mem.head _)
            have na0 := fun o => al_cell n0 o
            have na1 := fun o => al_cell n1 o
            have na2 := fun o => al_cell n2 o
            have na3 := fun o => al_cell n3 o
            have naf : ∀ ob o, (World.alloc V504 ob).frozen? ⟨V254.heap.size, o, none⟩ = false := fun ob o => ((HN505.out.bx _ (List.Mem.head _)).2.alloc ob).facts.2.2.2.2 o
            have hsz5 : V254.heap.size + 1 ≤ V504.heap.size := HN505.out.lt _ (List.Mem.head _)
            have hlo : ∀ x ∈ ([(V254.heap.size, .int .i64 6, .string ⟨#[]⟩, .slice (some ⟨W467.heap.size, 0, none⟩) 2 2, .int .i64 pl252), zB w.heap.size] : List Bx), x.1 < (V254.heap.size + 1) := fun x hx => by have := HLO.out; simp only [List.mem_cons, List.not_mem_nil, or_false] at hx; rcases hx with rfl | rfl <;> (try dsimp only [zB]) <;> omega
            have HLOW := hj hlo
            clear hlo
            have HWB : Hid (w.heap.size ≤ (V254.heap.size + 1)) := hj (Nat.le_succ_of_le (show w.heap.size ≤ V254.heap.size from (HN505.out.bx _ (List.Mem.head _)).1))
            go_wp2_with (at_builtin; refine Hold.out ?_)
            refine Hold.put ?_
            obtain ⟨xs, hown, hfl⟩ := HO506.out
            have hlt := fun j hj => hown.lt j hj
            refine wpList_append_fresh _ rfl (.tmp 184) (.tmp 186) 22 rfl (V254.heap.size + 1) 53 i0 (.agg #[.int .i64 0, .string ⟨#[]⟩, .slice none 0 0, .int .i64 0]) 4 56 Tryz.underlying22 hi0 hz0 hz1 hz2 rfl (by decide) _ 2 _ rfl ((hown.alloc _).alloc _) ⟨V504.heap.size + 1, 0, none⟩ 1 1 [.int .i64 k494, .string ⟨n495.toArray⟩, .slice y498 l496.length cp499, .int .i64 pp497] rfl rfl (by rw [show (V504.heap.size + 1) = (V504.alloc (.cells #[.int .i64 k494, .string ⟨n495.toArray⟩, .slice y498 l496.length cp499, .int .i64 pp497] 53)).heap.size by simp]; exact cell_four_new _ _ _ _ _ _) (fun x hx => by simp at hx; rcases hx with rfl | rfl | rfl | rfl <;> rfl) (by unfold maxLen; omega) (by omega) (by simp; omega) ?_
            intro v' w6 hown' hgrow hfresh
            obtain ⟨va', vc', hv', hN6, hR6⟩ := NSt.app (S := W488.heap.size) (acc := [(.mk k426 n427 l428 pp429), (.mk k456 n457 l458 pp459)]) HN505.out HLOW.out HWB.out (((Below.refl _ _).alloc (Nat.le_refl _) _).alloc (by simp) _) hown hfl Hhk501.out HL490.out (by omega) hown' hgrow hfresh
            obtain rfl : v' = .slice va' 3 vc' := hv'
            obtain ⟨z0, z1, z2, z3, zf⟩ : BoxF w6 V254.heap.size (.int .i64 6) (.string ⟨#[]⟩) (.slice (some ⟨W467.heap.size, 0, none⟩) 2 2) (.int .i64 pl252) := hN6.at_ (List.Mem.head _)
            have HN6 := hj hN6
            have HR6 := hj hR6
            clear hN6 hR6 hown hfl hlt hown' hgrow hfresh hszr hsz5
            clear HO506 HN505
            clear n0 n1 n2 n3 nf
            clear na0 na1 na2 na3 naf
            go_upto_region 63 with (fail)
            have HR7 : Hid (RowOwn (World.setCell w6 ⟨V254.heap.size, 2, none⟩ (.slice va' 3 vc')) (V254.heap.size + 1) (.slice va' 3 vc') ([(.mk k426 n427 l428 pp429), (.mk k456 n457 l458 pp459)] ++ [(Nd.mk k494 n495 l496 pp497)])) := hj (HR6.out.set (Nat.lt_succ_self _))
            clear HR6 z0 z1 z2 z3 zf
            have HN7 : Hid (NSt C w (World.setCell w6 ⟨V254.heap.size, 2, none⟩ (.slice va' 3 vc')) b492 q493 [(V254.heap.size, .int .i64 6, .string ⟨#[]⟩, .slice va' 3 vc', .int .i64 pl252), zB w.heap.size]) := hj (NSt.set2 (pre := []) HN6.out)
            clear HN6
            generalize World.setCell w6 ⟨V254.heap.size, 2, none⟩ (.slice va' 3 vc') = w7 at HN7 HR7 ⊢
            have HK507 : Hid (Rw (V254.heap.size + 1) w7 [V254.heap.size, w.heap.size] ([(.mk k426 n427 l428 pp429), (.mk k456 n457 l458 pp459)] ++ [(Nd.mk k494 n495 l496 pp497)]) va') := hj (Rw.of_own (n := 0) HR7.out (fun a ha => by have := HLO.out; simp only [List.mem_cons, List.not_mem_nil, or_false] at ha; rcases ha with rfl | rfl <;> omega)).1
            clear HR7
            have HM : Hid (Mt R b492 q493 (.mk 6 [] [(.mk k426 n427 l428 pp429), (.mk k456 n457 l458 pp459), (Nd.mk k494 n495 l496 pp497)] (pl252 : Int))) := by
              show Mt _ _ _ _
              rw [HT6.out, HhM500.out.bind]
              exact Mt.ret _ _ _
            clear HhM500 HT6
            obtain ⟨n0, n1, n2, n3, nf⟩ : BoxF w7 (V254.heap.size) (.int .i64 6) (.string ⟨#[]⟩) (.slice va' 3 vc') (.int .i64 pl252) := HN7.out.at_ (List.Mem.head _)
            obtain ⟨r0, r1, r2, r3, rf⟩ : BoxF w7 (w.heap.size) (.int .i64 0) (.string ⟨#[]⟩) (.slice none 0 0) (.int .i64 0) := HN7.out.at_ (List.Mem.tail _ (List.Mem.head _))
            have HN508 : Hid (NSt C w (S4 w7 w.heap.size (.int .i64 6) (.string ⟨#[]⟩) (.slice va' 3 vc') (.int .i64 pl252)) b492 q493 [(V254.heap.size, .int .i64 6, .string ⟨#[]⟩, .slice va' 3 vc', .int .i64 pl252), (w.heap.size, .int .i64 6, .string ⟨#[]⟩, .slice va' 3 vc', .int .i64 pl252)]) := hj (NSt.set4 (pre := [(V254.heap.size, .int .i64 6, .string ⟨#[]⟩, .slice va' 3 vc', .int .i64 pl252)]) HN7.out)
            have HK509 : Hid (Rw (V254.heap.size + 1) (S4 w7 w.heap.size (.int .i64 6) (.string ⟨#[]⟩) (.slice va' 3 vc') (.int .i64 pl252)) [V254.heap.size, w.heap.size] ([(.mk k426 n427 l428 pp429), (.mk k456 n457 l458 pp459)] ++ [(Nd.mk k494 n495 l496 pp497)]) va') := hj (HK507.out.set4 (List.Mem.tail _ (List.Mem.head _)))
            have HW : Hid (w.heap.size ≤ (V254.heap.size + 1)) := hj (Nat.le_succ_of_le (show w.heap.size ≤ V254.heap.size from (HN7.out.bx _ (List.Mem.head _)).1))
            have HF : Hid (RFinN C w (stmtO C.ts C.s.size ex st f) false p (.returned (.agg #[.int .i64 6, .string ⟨#[]⟩, .slice va' 3 vc', .int .i64 pl252])) (S4 w7 w.heap.size (.int .i64 6) (.string ⟨#[]⟩) (.slice va' 3 vc') (.int .i64 pl252))) := hj (NSt.fin (n := []) (l := ([(.mk k426 n427 l428 pp429), (.mk k456 n457 l458 pp459)] ++ [(Nd.mk k494 n495 l496 pp497)])) HN508.out HW.out (by rw [HR.out]; exact HM.out) HK509.out)
            clear HN7 HN508 HW HM HK509 HK507
            go_wp2_with fail
            exact ret_node rfl rfl rfl (by simp [go_sem, r0]) (by simp [go_sem, r1]) (by simp [go_sem, r2]) (by simp [go_sem, r3]) HF.out
      · obtain ⟨rfl, hHI⟩ : b = false ∧ isT C.ts p [102, 111, 114] = true := by
          have := HE269.out
          cases b <;> simp_all
        have HI := hj hHI
        clear hHI
        have HT1 : Hid (R = (Tot (takeP C.ts C.s.size [40]) false (p + 1)).bind fun v0 q0 => (nameP C.ts q0).bind fun v1 q1 => (takeP C.ts C.s.size [61] q1).bind fun v2 q2 => (ex q2).bind fun v3 q3 => (takeP C.ts C.s.size [41] q3).bind fun v4 q4 => (blockO C.ts C.s.size st f q4).bind fun v5 q5 => .ok (.mk 5 v1 [v3, v5] (pl252 : Int)) q5) := by
          show R = _
          have n0 : isT C.ts p wModule = false := by
            have := (show (!false && isT C.ts p wModule) = false from HE259.out)
            simpa using this
          have n1 : isT C.ts p wFunction = false := by
            have := (show (!false && isT C.ts p wFunction) = false from HE264.out)
            simpa using this
          rw [HT.out, tot_go, stmtO, if_neg (by rw [n0]; decide), if_neg (by rw [n1]; decide), if_pos (show isT C.ts p wFor = true from HI.out), Hpl252.out]
          rfl
        clear HT
        obtain ⟨x5101, x5102, x5103, x5104⟩ : V276.cell? ⟨C.pb, 2, none⟩ = some (.int .i64 p) ∧ V276.frozen? ⟨C.pb, 2, none⟩ = false ∧ p < C.ts.length ∧ C.ts.length ≤ 4096 := ⟨HN277.out.st.cellsF.2.2.1, HN277.out.st.cellsF.2.2.2.2.1, isT_lt HI.out, HN277.out.st.len⟩
        have x5105 : IntKind.i64.wrap ((p : Int) + 1) = (p : Int) + 1 := IntWalk.i64_in _ (by omega)
        have x5106 := hj x5103
        clear x5103 x5104
        go_upto_region 42 with (fail)
        clear x5101 x5102 x5105
        have HN511 : Hid (NSt C w (World.setCell V276 ⟨C.pb, 2, none⟩ (.int .i64 ((p : Int) + 1))) false (p + 1) [(V254.heap.size, .int .i64 0, .string ⟨#[]⟩, .slice none 0 0, .int .i64 pl252), zB w.heap.size]) := hj (HN277.out.step (q := p + 1) x5106.out)
        clear HN277
        generalize World.setCell V276 ⟨C.pb, 2, none⟩ (.int .i64 ((p : Int) + 1)) = W512 at HN511 ⊢
        obtain ⟨n0, n1, n2, n3, nf⟩ : BoxF W512 (V254.heap.size) (.int .i64 0) (.string ⟨#[]⟩) (.slice none 0 0) (.int .i64 pl252) := HN511.out.at_ (List.Mem.head _)
        go_upto_region 43 with (fail)
        clear n0 n1 n2 n3 nf
        have HN513 : Hid (NSt C w (World.setCell W512 ⟨V254.heap.size, 0, none⟩ (.int .i64 5)) false (p + 1) [(V254.heap.size, .int .i64 5, .string ⟨#[]⟩, .slice none 0 0, .int .i64 pl252), zB w.heap.size]) := hj (NSt.set0 (pre := []) HN511.out)
        clear HN511
        generalize World.setCell W512 ⟨V254.heap.size, 0, none⟩ (.int .i64 5) = W514 at HN513 ⊢
        have c515 := rtake_any C false (p + 1) [40] W514 HN513.out.st
        obtain ⟨pl516, hpl516⟩ : ∃ pl, placeT C.ts C.s.size (p + 1) = pl := ⟨_, rfl⟩
        rw [hpl516] at c515
        have Hpl516 := hj hpl516
        clear hpl516
        go_wp2_with fail
        (with_reducible refine c515.mono ?_)
        clear c515
        rintro e V523 ⟨b517, q518, a522, hM519, rfl, hs520, ho521⟩
        have hM519' := hM519.place
        rw [Hpl516.out] at hM519'
        clear hM519
        have HN524 : Hid (NSt C w V523 b517 q518 [(V254.heap.size, .int .i64 5, .string ⟨#[]⟩, .slice none 0 0, .int .i64 pl252), zB w.heap.size]) := hj (HN513.out.call hs520 ho521)
        clear HN513 ho521 hs520
        have HT2 : Hid (R = (Tot (nameP C.ts) b517 q518).bind fun v1 q1 => (takeP C.ts C.s.size [61] q1).bind fun v2 q2 => (ex q2).bind fun v3 q3 => (takeP C.ts C.s.size [41] q3).bind fun v4 q4 => (blockO C.ts C.s.size st f q4).bind fun v5 q5 => .ok (.mk 5 v1 [v3, v5] (pl252 : Int)) q5) := by
          show R = _
          rw [HT1.out, hM519'.bind, ← tot_bind]
        clear hM519' HT1
        have c525 := rnameq_any C b517 q518 V523 HN524.out.st
        go_wp2_with fail
        (with_reducible refine c525.mono ?_)
        clear c525
        rintro e V532 ⟨b526, q527, nm531, hM528, rfl, hs529, ho530⟩
        have HN533 : Hid (NSt C w V532 b526 q527 [(V254.heap.size, .int .i64 5, .string ⟨#[]⟩, .slice none 0 0, .int .i64 pl252), zB w.heap.size]) := hj (HN524.out.call hs529 ho530)
        clear HN524 ho530 hs529
        have HT3 : Hid (R = (Tot (takeP C.ts C.s.size [61]) b526 q527).bind fun v2 q2 => (ex q2).bind fun v3 q3 => (takeP C.ts C.s.size [41] q3).bind fun v4 q4 => (blockO C.ts C.s.size st f q4).bind fun v5 q5 => .ok (.mk 5 nm531 [v3, v5] (pl252 : Int)) q5) := by
          show R = _
          rw [HT2.out, hM528.bind, ← tot_bind]
        clear hM528 HT2
        obtain ⟨n0, n1, n2, n3, nf⟩ : BoxF V532 (V254.heap.size) (.int .i64 5) (.string ⟨#[]⟩) (.slice none 0 0) (.int .i64 pl252) := HN533.out.at_ (List.Mem.head _)
        go_upto_region 45 with (fail)
        clear n0 n1 n2 n3 nf
        have HN534 : Hid (NSt C w (World.setCell V532 ⟨V254.heap.size, 1, none⟩ (.string ⟨nm531.toArray⟩)) b526 q527 [(V254.heap.size, .int .i64 5, .string ⟨nm531.toArray⟩, .slice none 0 0, .int .i64 pl252), zB w.heap.size]) := hj (NSt.set1 (pre := []) HN533.out)
        clear HN533
        generalize World.setCell V532 ⟨V254.heap.size, 1, none⟩ (.string ⟨nm531.toArray⟩) = W535 at HN534 ⊢
        have c536 := rtake_any C b526 q527 [61] W535 HN534.out.st
        obtain ⟨pl537, hpl537⟩ : ∃ pl, placeT C.ts C.s.size q527 = pl := ⟨_, rfl⟩
        rw [hpl537] at c536
        have Hpl537 := hj hpl537
        clear hpl537
        go_wp2_with fail
        (with_reducible refine c536.mono ?_)
        clear c536
        rintro e V544 ⟨b538, q539, a543, hM540, rfl, hs541, ho542⟩
        have hM540' := hM540.place
        rw [Hpl537.out] at hM540'
        clear hM540
        have HN545 : Hid (NSt C w V544 b538 q539 [(V254.heap.size, .int .i64 5, .string ⟨nm531.toArray⟩, .slice none 0 0, .int .i64 pl252), zB w.heap.size]) := hj (HN534.out.call hs541 ho542)
        clear HN534 ho542 hs541
        have HT4 : Hid (R = (Tot (ex) b538 q539).bind fun v3 q3 => (takeP C.ts C.s.size [41] q3).bind fun v4 q4 => (blockO C.ts C.s.size st f q4).bind fun v5 q5 => .ok (.mk 5 nm531 [v3, v5] (pl252 : Int)) q5) := by
          show R = _
          rw [HT3.out, hM540'.bind, ← tot_bind]
        clear hM540' HT3
        have c546 := HHX.out _ _ _ HN545.out.st (fun e => HNE.out (by rw [HT4.out, e]; rfl)) HEX.out
        unfold RFinN at c546
        go_wp2_with fail
        (with_reducible refine c546.mono ?_)
        clear c546
        rintro e V559 ⟨b547, q548, k553, n554, l555, pp556, y557, cp558, hM549, rfl, hk552, hs550, ho551⟩
        have HN560 : Hid (NSt C w V559 b547 q548 [(V254.heap.size, .int .i64 5, .string ⟨nm531.toArray⟩, .slice none 0 0, .int .i64 pl252), zB w.heap.size]) := hj (HN545.out.call hs550 ho551)
        have HK561 : Hid (Rw (V254.heap.size + 1) V559 [V254.heap.size, w.heap.size] l555 y557) := hj (HN545.out.row (HN545.out.lt _ (List.Mem.head _)) hk552)
        clear HN545 ho551 hs550 hk552
        have HT5 : Hid (R = (Tot (takeP C.ts C.s.size [41]) b547 q548).bind fun v4 q4 => (blockO C.ts C.s.size st f q4).bind fun v5 q5 => .ok (.mk 5 nm531 [(.mk k553 n554 l555 pp556), v5] (pl252 : Int)) q5) := by
          show R = _
          rw [HT4.out, hM549.bind, ← tot_bind]
        clear hM549 HT4
        go_upto_region 47 with (fail)
        have HN562 : Hid (NSt C w (World.alloc V559 (.cells #[.int .i64 k553, .string ⟨n554.toArray⟩, .slice y557 l555.length cp558, .int .i64 pp556] 53)) b547 q548 [nB V559.heap.size k553 n554 y557 l555 cp558 pp556, (V254.heap.size, .int .i64 5, .string ⟨nm531.toArray⟩, .slice none 0 0, .int .i64 pl252), zB w.heap.size]) := hj (HN560.out.alloc _ _ _ _)
        have HK564 : Hid (Rw (V254.heap.size + 1) (World.alloc V559 (.cells #[.int .i64 k553, .string ⟨n554.toArray⟩, .slice y557 l555.length cp558, .int .i64 pp556] 53)) [V559.heap.size, V254.heap.size, w.heap.size] l555 y557) := hj (HK561.out.alloc _)
        clear HN560 HK561
        generalize World.alloc V559 (.cells #[.int .i64 k553, .string ⟨n554.toArray⟩, .slice y557 l555.length cp558, .int .i64 pp556] 53) = W563 at HN562 HK564 ⊢
        have c565 := rtake_any C b547 q548 [41] W563 HN562.out.st
        obtain ⟨pl566, hpl566⟩ : ∃ pl, placeT C.ts C.s.size q548 = pl := ⟨_, rfl⟩
        rw [hpl566] at c565
        have Hpl566 := hj hpl566
        clear hpl566
        go_wp2_with fail
        (with_reducible refine c565.mono ?_)
        clear c565
        rintro e V573 ⟨b567, q568, a572, hM569, rfl, hs570, ho571⟩
        have hM569' := hM569.place
        rw [Hpl566.out] at hM569'
        clear hM569
        have HN574 : Hid (NSt C w V573 b567 q568 [nB V559.heap.size k553 n554 y557 l555 cp558 pp556, (V254.heap.size, .int .i64 5, .string ⟨nm531.toArray⟩, .slice none 0 0, .int .i64 pl252), zB w.heap.size]) := hj (HN562.out.call hs570 ho571)
        have HK575 : Hid (Rw (V254.heap.size + 1) V573 [V559.heap.size, V254.heap.size, w.heap.size] l555 y557) := hj (HK564.out.call (Nat.lt_succ_of_le (Nat.le_of_lt (Nat.lt_of_lt_of_le HN562.out.pb (show w.heap.size ≤ V254.heap.size from (HN562.out.bx _ (List.Mem.tail _ (List.Mem.head _))).1)))) ho571)
        clear HN562 HK564 ho571 hs570
        have HT6 : Hid (R = (Tot (blockO C.ts C.s.size st f) b567 q568).bind fun v5 q5 => .ok (.mk 5 nm531 [(.mk k553 n554 l555 pp556), v5] (pl252 : Int)) q5) := by
          show R = _
          rw [HT5.out, hM569'.bind, ← tot_bind]
        clear hM569' HT5
        have c576 := rblock_any C st HHB.out f hf _ _ _ HN574.out.st (fun e => HNE.out (by rw [HT6.out, e]; rfl))
        unfold RFinN at c576
        go_wp2_with fail
        (with_reducible refine c576.mono ?_)
        clear c576
        rintro e V589 ⟨b577, q578, k583, n584, l585, pp586, y587, cp588, hM579, rfl, hk582, hs580, ho581⟩
        have HN590 : Hid (NSt C w V589 b577 q578 [nB V559.heap.size k553 n554 y557 l555 cp558 pp556, (V254.heap.size, .int .i64 5, .string ⟨nm531.toArray⟩, .slice none 0 0, .int .i64 pl252), zB w.heap.size]) := hj (HN574.out.call hs580 ho581)
        have HK591 : Hid (Rw (V254.heap.size + 1) V589 [V559.heap.size, V254.heap.size, w.heap.size] l555 y557) := hj (HK575.out.call (Nat.lt_succ_of_le (Nat.le_of_lt (Nat.lt_of_lt_of_le HN574.out.pb (show w.heap.size ≤ V254.heap.size from (HN574.out.bx _ (List.Mem.tail _ (List.Mem.head _))).1)))) ho581)
        have HK592 : Hid (Rw (V254.heap.size + 1) V589 [V559.heap.size, V254.heap.size, w.heap.size] l585 y587) := hj (HN574.out.row (HN574.out.lt _ (List.Mem.tail _ (List.Mem.head _))) hk582)
        clear HN574 HK575 ho581 hs580 hk582
        have HM : Hid (Mt R b577 q578 (.mk 5 nm531 [(.mk k553 n554 l555 pp556), (.mk k583 n584 l585 pp586)] (pl252 : Int))) := by
          show Mt _ _ _ _
          rw [HT6.out, hM579.bind]
          exact Mt.ret _ _ _
        clear hM579 HT6
        go_upto_region 49 with (fail)
        have HN593 : Hid (NSt C w (World.alloc V589 (.cells #[.int .i64 k583, .string ⟨n584.toArray⟩, .slice y587 l585.length cp588, .int .i64 pp586] 53)) b577 q578 [nB V589.heap.size k583 n584 y587 l585 cp588 pp586, nB V559.heap.size k553 n554 y557 l555 cp558 pp556, (V254.heap.size, .int .i64 5, .string ⟨nm531.toArray⟩, .slice none 0 0, .int .i64 pl252), zB w.heap.size]) := hj (HN590.out.alloc _ _ _ _)
        have HK595 : Hid (Rw (V254.heap.size + 1) (World.alloc V589 (.cells #[.int .i64 k583, .string ⟨n584.toArray⟩, .slice y587 l585.length cp588, .int .i64 pp586] 53)) [V589.heap.size, V559.heap.size, V254.heap.size, w.heap.size] l555 y557) := hj (HK591.out.alloc _)
        have HK596 : Hid (Rw (V254.heap.size + 1) (World.alloc V589 (.cells #[.int .i64 k583, .string ⟨n584.toArray⟩, .slice y587 l585.length cp588, .int .i64 pp586] 53)) [V589.heap.size, V559.heap.size, V254.heap.size, w.heap.size] l585 y587) := hj (HK592.out.alloc _)
        clear HN590 HK591 HK592
        generalize World.alloc V589 (.cells #[.int .i64 k583, .string ⟨n584.toArray⟩, .slice y587 l585.length cp588, .int .i64 pp586] 53) = W594 at HN593 HK595 HK596 ⊢
        obtain ⟨u00, u01, u02, u03, u0f⟩ : BoxF W594 (V559.heap.size) (.int .i64 k553) (.string ⟨n554.toArray⟩) (.slice y557 l555.length cp558) (.int .i64 pp556) := HN593.out.at_ (List.Mem.tail _ (List.Mem.head _))
        obtain ⟨u10, u11, u12, u13, u1f⟩ : BoxF W594 (V589.heap.size) (.int .i64 k583) (.string ⟨n584.toArray⟩) (.slice y587 l585.length cp588) (.int .i64 pp586) := HN593.out.at_ (List.Mem.head _)
        obtain ⟨n0, n1, n2, n3, nf⟩ : BoxF W594 (V254.heap.size) (.int .i64 5) (.string ⟨nm531.toArray⟩) (.slice none 0 0) (.int .i64 pl252) := HN593.out.at_ (List.Mem.tail _ (List.Mem.tail _ (List.Mem.head _)))
        have na0 := fun o => al_cell n0 o
        have na1 := fun o => al_cell n1 o
        have na2 := fun o => al_cell n2 o
        have na3 := fun o => al_cell n3 o
        have naf : ∀ ob o, (World.alloc W594 ob).frozen? ⟨V254.heap.size, o, none⟩ = false := fun ob o => ((HN593.out.bx _ (List.Mem.tail _ (List.Mem.tail _ (List.Mem.head _)))).2.alloc ob).facts.2.2.2.2 o
        go_upto_region 63 with (fail)
        clear n0 n1 n2 n3 nf u00 u01 u02 u03 u0f u10 u11 u12 u13 u1f
        clear na0 na1 na2 na3 naf
        have HK597 : Hid (Rw (V254.heap.size + 1) (World.alloc W594 (.cells #[.int .i64 k553, .string ⟨n554.toArray⟩, .slice y557 l555.length cp558, .int .i64 pp556, .int .i64 k583, .string ⟨n584.toArray⟩, .slice y587 l585.length cp588, .int .i64 pp586] 53)) [V589.heap.size, V559.heap.size, V254.heap.size, w.heap.size] [(.mk k553 n554 l555 pp556), (.mk k583 n584 l585 pp586)] (some ⟨W594.heap.size, 0, none⟩)) := hj (Rw.two HN593.out (HN593.out.lt _ (List.Mem.tail _ (List.Mem.tail _ (List.Mem.head _)))) HK595.out HK596.out)
        have HN598 : Hid (NSt C w (World.alloc W594 (.cells #[.int .i64 k553, .string ⟨n554.toArray⟩, .slice y557 l555.length cp558, .int .i64 pp556, .int .i64 k583, .string ⟨n584.toArray⟩, .slice y587 l585.length cp588, .int .i64 pp586] 53)) b577 q578 [nB V589.heap.size k583 n584 y587 l585 cp588 pp586, nB V559.heap.size k553 n554 y557 l555 cp558 pp556, (V254.heap.size, .int .i64 5, .string ⟨nm531.toArray⟩, .slice none 0 0, .int .i64 pl252), zB w.heap.size]) := hj (HN593.out.blk _)
        clear HN593 HK595 HK596
        have HN599 : Hid (NSt C w (World.setCell (World.alloc W594 (.cells #[.int .i64 k553, .string ⟨n554.toArray⟩, .slice y557 l555.length cp558, .int .i64 pp556, .int .i64 k583, .string ⟨n584.toArray⟩, .slice y587 l585.length cp588, .int .i64 pp586] 53)) ⟨V254.heap.size, 2, none⟩ (.slice (some ⟨W594.heap.size, 0, none⟩) 2 2)) b577 q578 [nB V589.heap.size k583 n584 y587 l585 cp588 pp586, nB V559.heap.size k553 n554 y557 l555 cp558 pp556, (V254.heap.size, .int .i64 5, .string ⟨nm531.toArray⟩, .slice (some ⟨W594.heap.size, 0, none⟩) 2 2, .int .i64 pl252), zB w.heap.size]) := hj (NSt.set2 (pre := [nB V589.heap.size k583 n584 y587 l585 cp588 pp586, nB V559.heap.size k553 n554 y557 l555 cp558 pp556]) HN598.out)
        have HK601 : Hid (Rw (V254.heap.size + 1) (World.setCell (World.alloc W594 (.cells #[.int .i64 k553, .string ⟨n554.toArray⟩, .slice y557 l555.length cp558, .int .i64 pp556, .int .i64 k583, .string ⟨n584.toArray⟩, .slice y587 l585.length cp588, .int .i64 pp586] 53)) ⟨V254.heap.size, 2, none⟩ (.slice (some ⟨W594.heap.size, 0, none⟩) 2 2)) [V589.heap.size, V559.heap.size, V254.heap.size, w.heap.size] [(.mk k553 n554 l555 pp556), (.mk k583 n584 l585 pp586)] (some ⟨W594.heap.size, 0, none⟩)) := hj (HK597.out.set (List.Mem.tail _ (List.Mem.tail _ (List.Mem.head _))))
        clear HN598 HK597
        generalize World.setCell (World.alloc W594 (.cells #[.int .i64 k553, .string ⟨n554.toArray⟩, .slice y557 l555.length cp558, .int .i64 pp556, .int .i64 k583, .string ⟨n584.toArray⟩, .slice y587 l585.length cp588, .int .i64 pp586] 53)) ⟨V254.heap.size, 2, none⟩ (.slice (some ⟨W594.heap.size, 0, none⟩) 2 2) = W600 at HN599 HK601 ⊢
        obtain ⟨n0, n1, n2, n3, nf⟩ : BoxF W600 (V254.heap.size) (.int .i64 5) (.string ⟨nm531.toArray⟩) (.slice (some ⟨W594.heap.size, 0, none⟩) 2 2) (.int .i64 pl252) := HN599.out.at_ (List.Mem.tail _ (List.Mem.tail _ (List.Mem.head _)))
        obtain ⟨r0, r1, r2, r3, rf⟩ : BoxF W600 (w.heap.size) (.int .i64 0) (.string ⟨#[]⟩) (.slice none 0 0) (.int .i64 0) := HN599.out.at_ (List.Mem.tail _ (List.Mem.tail _ (List.Mem.tail _ (List.Mem.head _))))
        have HN602 : Hid (NSt C w (S4 W600 w.heap.size (.int .i64 5) (.string ⟨nm531.toArray⟩) (.slice (some ⟨W594.heap.size, 0, none⟩) 2 2) (.int .i64 pl252)) b577 q578 [nB V589.heap.size k583 n584 y587 l585 cp588 pp586, nB V559.heap.size k553 n554 y557 l555 cp558 pp556, (V254.heap.size, .int .i64 5, .string ⟨nm531.toArray⟩, .slice (some ⟨W594.heap.size, 0, none⟩) 2 2, .int .i64 pl252), (w.heap.size, .int .i64 5, .string ⟨nm531.toArray⟩, .slice (some ⟨W594.heap.size, 0, none⟩) 2 2, .int .i64 pl252)]) := hj (NSt.set4 (pre := [nB V589.heap.size k583 n584 y587 l585 cp588 pp586, nB V559.heap.size k553 n554 y557 l555 cp558 pp556, (V254.heap.size, .int .i64 5, .string ⟨nm531.toArray⟩, .slice (some ⟨W594.heap.size, 0, none⟩) 2 2, .int .i64 pl252)]) HN599.out)
        have HK603 : Hid (Rw (V254.heap.size + 1) (S4 W600 w.heap.size (.int .i64 5) (.string ⟨nm531.toArray⟩) (.slice (some ⟨W594.heap.size, 0, none⟩) 2 2) (.int .i64 pl252)) [V589.heap.size, V559.heap.size, V254.heap.size, w.heap.size] [(.mk k553 n554 l555 pp556), (.mk k583 n584 l585 pp586)] (some ⟨W594.heap.size, 0, none⟩)) := hj (HK601.out.set4 (List.Mem.tail _ (List.Mem.tail _ (List.Mem.tail _ (List.Mem.head _)))))
        have HW : Hid (w.heap.size ≤ (V254.heap.size + 1)) := hj (Nat.le_succ_of_le (show w.heap.size ≤ V254.heap.size from (HN599.out.bx _ (List.Mem.tail _ (List.Mem.tail _ (List.Mem.head _)))).1))
        have HF : Hid (RFinN C w (stmtO C.ts C.s.size ex st f) false p (.returned (.agg #[.int .i64 5, .string ⟨nm531.toArray⟩, .slice (some ⟨W594.heap.size, 0, none⟩) 2 2, .int .i64 pl252])) (S4 W600 w.heap.size (.int .i64 5) (.string ⟨nm531.toArray⟩) (.slice (some ⟨W594.heap.size, 0, none⟩) 2 2) (.int .i64 pl252))) := hj (NSt.fin (n := nm531) (l := [(.mk k553 n554 l555 pp556), (.mk k583 n584 l585 pp586)]) HN602.out HW.out (by rw [HR.out]; exact HM.out) HK603.out)
        clear HN599 HN602 HW HM HK603 HK601
        go_wp2_with fail
        exact ret_node rfl rfl rfl (by simp [go_sem, r0]) (by simp [go_sem, r1]) (by simp [go_sem, r2]) (by simp [go_sem, r3]) HF.out
    · obtain ⟨rfl, hHI⟩ : b = false ∧ isT C.ts p [102, 117, 110, 99, 116, 105, 111, 110] = true := by
        have := HE264.out
        cases b <;> simp_all
      have HI := hj hHI
      clear hHI
      have HT7 : Hid (R = (Tot (nameP C.ts) false (p + 1)).bind fun v0 q0 => (paramsP C.ts C.s.size f q0).bind fun v1 q1 => (takeP C.ts C.s.size [61] q1).bind fun v2 q2 => (ex q2).bind fun v3 q3 => (takeP C.ts C.s.size [59] q3).bind fun v4 q4 => .ok (.mk 3 v0 [v1, v3] (pl252 : Int)) q4) := by
        show R = _
        have n0 : isT C.ts p wModule = false := by
          have := (show (!false && isT C.ts p wModule) = false from HE259.out)
          simpa using this
        rw [HT.out, tot_go, stmtO, if_neg (by rw [n0]; decide), if_pos (show isT C.ts p wFunction = true from HI.out), Hpl252.out]
        rfl
      clear HT
      obtain ⟨x6041, x6042, x6043, x6044⟩ : V276.cell? ⟨C.pb, 2, none⟩ = some (.int .i64 p) ∧ V276.frozen? ⟨C.pb, 2, none⟩ = false ∧ p < C.ts.length ∧ C.ts.length ≤ 4096 := ⟨HN277.out.st.cellsF.2.2.1, HN277.out.st.cellsF.2.2.2.2.1, isT_lt HI.out, HN277.out.st.len⟩
      have x6045 : IntKind.i64.wrap ((p : Int) + 1) = (p : Int) + 1 := IntWalk.i64_in _ (by omega)
      have x6046 := hj x6043
      clear x6043 x6044
      go_upto_region 33 with (fail)
      clear x6041 x6042 x6045
      have HN605 : Hid (NSt C w (World.setCell V276 ⟨C.pb, 2, none⟩ (.int .i64 ((p : Int) + 1))) false (p + 1) [(V254.heap.size, .int .i64 0, .string ⟨#[]⟩, .slice none 0 0, .int .i64 pl252), zB w.heap.size]) := hj (HN277.out.step (q := p + 1) x6046.out)
      clear HN277
      generalize World.setCell V276 ⟨C.pb, 2, none⟩ (.int .i64 ((p : Int) + 1)) = W606 at HN605 ⊢
      obtain ⟨n0, n1, n2, n3, nf⟩ : BoxF W606 (V254.heap.size) (.int .i64 0) (.string ⟨#[]⟩) (.slice none 0 0) (.int .i64 pl252) := HN605.out.at_ (List.Mem.head _)
      go_upto_region 34 with (fail)
      clear n0 n1 n2 n3 nf
      have HN607 : Hid (NSt C w (World.setCell W606 ⟨V254.heap.size, 0, none⟩ (.int .i64 3)) false (p + 1) [(V254.heap.size, .int .i64 3, .string ⟨#[]⟩, .slice none 0 0, .int .i64 pl252), zB w.heap.size]) := hj (NSt.set0 (pre := []) HN605.out)
      clear HN605
      generalize World.setCell W606 ⟨V254.heap.size, 0, none⟩ (.int .i64 3) = W608 at HN607 ⊢
      have c609 := rnameq_any C false (p + 1) W608 HN607.out.st
      go_wp2_with fail
      (with_reducible refine c609.mono ?_)
      clear c609
      rintro e V616 ⟨b610, q611, nm615, hM612, rfl, hs613, ho614⟩
      have HN617 : Hid (NSt C w V616 b610 q611 [(V254.heap.size, .int .i64 3, .string ⟨#[]⟩, .slice none 0 0, .int .i64 pl252), zB w.heap.size]) := hj (HN607.out.call hs613 ho614)
      clear HN607 ho614 hs613
      have HT8 : Hid (R = (Tot (paramsP C.ts C.s.size f) b610 q611).bind fun v1 q1 => (takeP C.ts C.s.size [61] q1).bind fun v2 q2 => (ex q2).bind fun v3 q3 => (takeP C.ts C.s.size [59] q3).bind fun v4 q4 => .ok (.mk 3 nm615 [v1, v3] (pl252 : Int)) q4) := by
        show R = _
        rw [HT7.out, hM612.bind, ← tot_bind]
      clear hM612 HT7
      obtain ⟨n0, n1, n2, n3, nf⟩ : BoxF V616 (V254.heap.size) (.int .i64 3) (.string ⟨#[]⟩) (.slice none 0 0) (.int .i64 pl252) := HN617.out.at_ (List.Mem.head _)
      go_upto_region 35 with (fail)
      clear n0 n1 n2 n3 nf
      have HN618 : Hid (NSt C w (World.setCell V616 ⟨V254.heap.size, 1, none⟩ (.string ⟨nm615.toArray⟩)) b610 q611 [(V254.heap.size, .int .i64 3, .string ⟨nm615.toArray⟩, .slice none 0 0, .int .i64 pl252), zB w.heap.size]) := hj (NSt.set1 (pre := []) HN617.out)
      clear HN617
      generalize World.setCell V616 ⟨V254.heap.size, 1, none⟩ (.string ⟨nm615.toArray⟩) = W619 at HN618 ⊢
      have c620 := rparams_any C f hf _ _ _ HN618.out.st (fun e => HNE.out (by rw [HT8.out, e]; rfl))
      unfold RFinN at c620
      go_wp2_with fail
      (with_reducible refine c620.mono ?_)
      clear c620
      rintro e V633 ⟨b621, q622, k627, n628, l629, pp630, y631, cp632, hM623, rfl, hk626, hs624, ho625⟩
      have HN634 : Hid (NSt C w V633 b621 q622 [(V254.heap.size, .int .i64 3, .string ⟨nm615.toArray⟩, .slice none 0 0, .int .i64 pl252), zB w.heap.size]) := hj (HN618.out.call hs624 ho625)
      have HK635 : Hid (Rw (V254.heap.size + 1) V633 [V254.heap.size, w.heap.size] l629 y631) := hj (HN618.out.row (HN618.out.lt _ (List.Mem.head _)) hk626)
      clear HN618 ho625 hs624 hk626
      have HT9 : Hid (R = (Tot (takeP C.ts C.s.size [61]) b621 q622).bind fun v2 q2 => (ex q2).bind fun v3 q3 => (takeP C.ts C.s.size [59] q3).bind fun v4 q4 => .ok (.mk 3 nm615 [(.mk k627 n628 l629 pp630), v3] (pl252 : Int)) q4) := by
        show R = _
        rw [HT8.out, hM623.bind, ← tot_bind]
      clear hM623 HT8
      go_upto_region 36 with (fail)
      have HN636 : Hid (NSt C w (World.alloc V633 (.cells #[.int .i64 k627, .string ⟨n628.toArray⟩, .slice y631 l629.length cp632, .int .i64 pp630] 53)) b621 q622 [nB V633.heap.size k627 n628 y631 l629 cp632 pp630, (V254.heap.size, .int .i64 3, .string ⟨nm615.toArray⟩, .slice none 0 0, .int .i64 pl252), zB w.heap.size]) := hj (HN634.out.alloc _ _ _ _)
      have HK638 : Hid (Rw (V254.heap.size + 1) (World.alloc V633 (.cells #[.int .i64 k627, .string ⟨n628.toArray⟩, .slice y631 l629.length cp632, .int .i64 pp630] 53)) [V633.heap.size, V254.heap.size, w.heap.size] l629 y631) := hj (HK635.out.alloc _)
      clear HN634 HK635
      generalize World.alloc V633 (.cells #[.int .i64 k627, .string ⟨n628.toArray⟩, .slice y631 l629.length cp632, .int .i64 pp630] 53) = W637 at HN636 HK638 ⊢
      have c639 := rtake_any C b621 q622 [61] W637 HN636.out.st
      obtain ⟨pl640, hpl640⟩ : ∃ pl, placeT C.ts C.s.size q622 = pl := ⟨_, rfl⟩
      rw [hpl640] at c639
      have Hpl640 := hj hpl640
      clear hpl640
      go_wp2_with fail
      (with_reducible refine c639.mono ?_)
      clear c639
      rintro e V647 ⟨b641, q642, a646, hM643, rfl, hs644, ho645⟩
      have hM643' := hM643.place
      rw [Hpl640.out] at hM643'
      clear hM643
      have HN648 : Hid (NSt C w V647 b641 q642 [nB V633.heap.size k627 n628 y631 l629 cp632 pp630, (V254.heap.size, .int .i64 3, .string ⟨nm615.toArray⟩, .slice none 0 0, .int .i64 pl252), zB w.heap.size]) := hj (HN636.out.call hs644 ho645)
      have HK649 : Hid (Rw (V254.heap.size + 1) V647 [V633.heap.size, V254.heap.size, w.heap.size] l629 y631) := hj (HK638.out.call (Nat.lt_succ_of_le (Nat.le_of_lt (Nat.lt_of_lt_of_le HN636.out.pb (show w.heap.size ≤ V254.heap.size from (HN636.out.bx _ (List.Mem.tail _ (List.Mem.head _))).1)))) ho645)
      clear HN636 HK638 ho645 hs644
      have HT10 : Hid (R = (Tot (ex) b641 q642).bind fun v3 q3 => (takeP C.ts C.s.size [59] q3).bind fun v4 q4 => .ok (.mk 3 nm615 [(.mk k627 n628 l629 pp630), v3] (pl252 : Int)) q4) := by
        show R = _
        rw [HT9.out, hM643'.bind, ← tot_bind]
      clear hM643' HT9
      have c650 := HHX.out _ _ _ HN648.out.st (fun e => HNE.out (by rw [HT10.out, e]; rfl)) HEX.out
      unfold RFinN at c650
      go_wp2_with fail
      (with_reducible refine c650.mono ?_)
      clear c650
      rintro e V663 ⟨b651, q652, k657, n658, l659, pp660, y661, cp662, hM653, rfl, hk656, hs654, ho655⟩
      have HN664 : Hid (NSt C w V663 b651 q652 [nB V633.heap.size k627 n628 y631 l629 cp632 pp630, (V254.heap.size, .int .i64 3, .string ⟨nm615.toArray⟩, .slice none 0 0, .int .i64 pl252), zB w.heap.size]) := hj (HN648.out.call hs654 ho655)
      have HK665 : Hid (Rw (V254.heap.size + 1) V663 [V633.heap.size, V254.heap.size, w.heap.size] l629 y631) := hj (HK649.out.call (Nat.lt_succ_of_le (Nat.le_of_lt (Nat.lt_of_lt_of_le HN648.out.pb (show w.heap.size ≤ V254.heap.size from (HN648.out.bx _ (List.Mem.tail _ (List.Mem.head _))).1)))) ho655)
      have HK666 : Hid (Rw (V254.heap.size + 1) V663 [V633.heap.size, V254.heap.size, w.heap.size] l659 y661) := hj (HN648.out.row (HN648.out.lt _ (List.Mem.tail _ (List.Mem.head _))) hk656)
      clear HN648 HK649 ho655 hs654 hk656
      have HT11 : Hid (R = (Tot (takeP C.ts C.s.size [59]) b651 q652).bind fun v4 q4 => .ok (.mk 3 nm615 [(.mk k627 n628 l629 pp630), (.mk k657 n658 l659 pp660)] (pl252 : Int)) q4) := by
        show R = _
        rw [HT10.out, hM653.bind, ← tot_bind]
      clear hM653 HT10
      go_upto_region 38 with (fail)
      have HN667 : Hid (NSt C w (World.alloc V663 (.cells #[.int .i64 k657, .string ⟨n658.toArray⟩, .slice y661 l659.length cp662, .int .i64 pp660] 53)) b651 q652 [nB V663.heap.size k657 n658 y661 l659 cp662 pp660, nB V633.heap.size k627 n628 y631 l629 cp632 pp630, (V254.heap.size, .int .i64 3, .string ⟨nm615.toArray⟩, .slice none 0 0, .int .i64 pl252), zB w.heap.size]) := hj (HN664.out.alloc _ _ _ _)
      have HK669 : Hid (Rw (V254.heap.size + 1) (World.alloc V663 (.cells #[.int .i64 k657, .string ⟨n658.toArray⟩, .slice y661 l659.length cp662, .int .i64 pp660] 53)) [V663.heap.size, V633.heap.size, V254.heap.size, w.heap.size] l629 y631) := hj (HK665.out.alloc _)
      have HK670 : Hid (Rw (V254.heap.size + 1) (World.alloc V663 (.cells #[.int .i64 k657, .string ⟨n658.toArray⟩, .slice y661 l659.length cp662, .int .i64 pp660] 53)) [V663.heap.size, V633.heap.size, V254.heap.size, w.heap.size] l659 y661) := hj (HK666.out.alloc _)
      clear HN664 HK665 HK666
      generalize World.alloc V663 (.cells #[.int .i64 k657, .string ⟨n658.toArray⟩, .slice y661 l659.length cp662, .int .i64 pp660] 53) = W668 at HN667 HK669 HK670 ⊢
      have c671 := rtake_any C b651 q652 [59] W668 HN667.out.st
      obtain ⟨pl672, hpl672⟩ : ∃ pl, placeT C.ts C.s.size q652 = pl := ⟨_, rfl⟩
      rw [hpl672] at c671
      have Hpl672 := hj hpl672
      clear hpl672
      go_wp2_with fail
      (with_reducible refine c671.mono ?_)
      clear c671
      rintro e V679 ⟨b673, q674, a678, hM675, rfl, hs676, ho677⟩
      have hM675' := hM675.place
      rw [Hpl672.out] at hM675'
      clear hM675
      have HN680 : Hid (NSt C w V679 b673 q674 [nB V663.heap.size k657 n658 y661 l659 cp662 pp660, nB V633.heap.size k627 n628 y631 l629 cp632 pp630, (V254.heap.size, .int .i64 3, .string ⟨nm615.toArray⟩, .slice none 0 0, .int .i64 pl252), zB w.heap.size]) := hj (HN667.out.call hs676 ho677)
      have HK681 : Hid (Rw (V254.heap.size + 1) V679 [V663.heap.size, V633.heap.size, V254.heap.size, w.heap.size] l629 y631) := hj (HK669.out.call (Nat.lt_succ_of_le (Nat.le_of_lt (Nat.lt_of_lt_of_le HN667.out.pb (show w.heap.size ≤ V254.heap.size from (HN667.out.bx _ (List.Mem.tail _ (List.Mem.tail _ (List.Mem.head _)))).1)))) ho677)
      have HK682 : Hid (Rw (V254.heap.size + 1) V679 [V663.heap.size, V633.heap.size, V254.heap.size, w.heap.size] l659 y661) := hj (HK670.out.call (Nat.lt_succ_of_le (Nat.le_of_lt (Nat.lt_of_lt_of_le HN667.out.pb (show w.heap.size ≤ V254.heap.size from (HN667.out.bx _ (List.Mem.tail _ (List.Mem.tail _ (List.Mem.head _)))).1)))) ho677)
      clear HN667 HK669 HK670 ho677 hs676
      have HM : Hid (Mt R b673 q674 (.mk 3 nm615 [(.mk k627 n628 l629 pp630), (.mk k657 n658 l659 pp660)] (pl252 : Int))) := by
        show Mt _ _ _ _
        rw [HT11.out, hM675'.bind]
        exact Mt.ret _ _ _
      clear hM675' HT11
      obtain ⟨u00, u01, u02, u03, u0f⟩ : BoxF V679 (V633.heap.size) (.int .i64 k627) (.string ⟨n628.toArray⟩) (.slice y631 l629.length cp632) (.int .i64 pp630) := HN680.out.at_ (List.Mem.tail _ (List.Mem.head _))
      obtain ⟨u10, u11, u12, u13, u1f⟩ : BoxF V679 (V663.heap.size) (.int .i64 k657) (.string ⟨n658.toArray⟩) (.slice y661 l659.length cp662) (.int .i64 pp660) := HN680.out.at_ (List.Mem.head _)
      obtain ⟨n0, n1, n2, n3, nf⟩ : BoxF V679 (V254.heap.size) (.int .i64 3) (.string ⟨nm615.toArray⟩) (.slice none 0 0) (.int .i64 pl252) := HN680.out.at_ (List.Mem.tail _ (List.Mem.tail _ (List.Mem.head _)))
      have na0 := fun o => al_cell n0 o
      have na1 := fun o => al_cell n1 o
      have na2 := fun o => al_cell n2 o
      have na3 := fun o => al_cell n3 o
      have naf : ∀ ob o, (World.alloc V679 ob).frozen? ⟨V254.heap.size, o, none⟩ = false := fun ob o => ((HN680.out.bx _ (List.Mem.tail _ (List.Mem.tail _ (List.Mem.head _)))).2.alloc ob).facts.2.2.2.2 o
      go_upto_region 63 with (fail)
      clear n0 n1 n2 n3 nf u00 u01 u02 u03 u0f u10 u11 u12 u13 u1f
      clear na0 na1 na2 na3 naf
      have HK683 : Hid (Rw (V254.heap.size + 1) (World.alloc V679 (.cells #[.int .i64 k627, .string ⟨n628.toArray⟩, .slice y631 l629.length cp632, .int .i64 pp630, .int .i64 k657, .string ⟨n658.toArray⟩, .slice y661 l659.length cp662, .int .i64 pp660] 53)) [V663.heap.size, V633.heap.size, V254.heap.size, w.heap.size] [(.mk k627 n628 l629 pp630), (.mk k657 n658 l659 pp660)] (some ⟨V679.heap.size, 0, none⟩)) := hj (Rw.two HN680.out (HN680.out.lt _ (List.Mem.tail _ (List.Mem.tail _ (List.Mem.head _)))) HK681.out HK682.out)
      have HN684 : Hid (NSt C w (World.alloc V679 (.cells #[.int .i64 k627, .string ⟨n628.toArray⟩, .slice y631 l629.length cp632, .int .i64 pp630, .int .i64 k657, .string ⟨n658.toArray⟩, .slice y661 l659.length cp662, .int .i64 pp660] 53)) b673 q674 [nB V663.heap.size k657 n658 y661 l659 cp662 pp660, nB V633.heap.size k627 n628 y631 l629 cp632 pp630, (V254.heap.size, .int .i64 3, .string ⟨nm615.toArray⟩, .slice none 0 0, .int .i64 pl252), zB w.heap.size]) := hj (HN680.out.blk _)
      clear HN680 HK681 HK682
      have HN685 : Hid (NSt C w (World.setCell (World.alloc V679 (.cells #[.int .i64 k627, .string ⟨n628.toArray⟩, .slice y631 l629.length cp632, .int .i64 pp630, .int .i64 k657, .string ⟨n658.toArray⟩, .slice y661 l659.length cp662, .int .i64 pp660] 53)) ⟨V254.heap.size, 2, none⟩ (.slice (some ⟨V679.heap.size, 0, none⟩) 2 2)) b673 q674 [nB V663.heap.size k657 n658 y661 l659 cp662 pp660, nB V633.heap.size k627 n628 y631 l629 cp632 pp630, (V254.heap.size, .int .i64 3, .string ⟨nm615.toArray⟩, .slice (some ⟨V679.heap.size, 0, none⟩) 2 2, .int .i64 pl252), zB w.heap.size]) := hj (NSt.set2 (pre := [nB V663.heap.size k657 n658 y661 l659 cp662 pp660, nB V633.heap.size k627 n628 y631 l629 cp632 pp630]) HN684.out)
      have HK687 : Hid (Rw (V254.heap.size + 1) (World.setCell (World.alloc V679 (.cells #[.int .i64 k627, .string ⟨n628.toArray⟩, .slice y631 l629.length cp632, .int .i64 pp630, .int .i64 k657, .string ⟨n658.toArray⟩, .slice y661 l659.length cp662, .int .i64 pp660] 53)) ⟨V254.heap.size, 2, none⟩ (.slice (some ⟨V679.heap.size, 0, none⟩) 2 2)) [V663.heap.size, V633.heap.size, V254.heap.size, w.heap.size] [(.mk k627 n628 l629 pp630), (.mk k657 n658 l659 pp660)] (some ⟨V679.heap.size, 0, none⟩)) := hj (HK683.out.set (List.Mem.tail _ (List.Mem.tail _ (List.Mem.head _))))
      clear HN684 HK683
      generalize World.setCell (World.alloc V679 (.cells #[.int .i64 k627, .string ⟨n628.toArray⟩, .slice y631 l629.length cp632, .int .i64 pp630, .int .i64 k657, .string ⟨n658.toArray⟩, .slice y661 l659.length cp662, .int .i64 pp660] 53)) ⟨V254.heap.size, 2, none⟩ (.slice (some ⟨V679.heap.size, 0, none⟩) 2 2) = W686 at HN685 HK687 ⊢
      obtain ⟨n0, n1, n2, n3, nf⟩ : BoxF W686 (V254.heap.size) (.int .i64 3) (.string ⟨nm615.toArray⟩) (.slice (some ⟨V679.heap.size, 0, none⟩) 2 2) (.int .i64 pl252) := HN685.out.at_ (List.Mem.tail _ (List.Mem.tail _ (List.Mem.head _)))
      obtain ⟨r0, r1, r2, r3, rf⟩ : BoxF W686 (w.heap.size) (.int .i64 0) (.string ⟨#[]⟩) (.slice none 0 0) (.int .i64 0) := HN685.out.at_ (List.Mem.tail _ (List.Mem.tail _ (List.Mem.tail _ (List.Mem.head _))))
      have HN688 : Hid (NSt C w (S4 W686 w.heap.size (.int .i64 3) (.string ⟨nm615.toArray⟩) (.slice (some ⟨V679.heap.size, 0, none⟩) 2 2) (.int .i64 pl252)) b673 q674 [nB V663.heap.size k657 n658 y661 l659 cp662 pp660, nB V633.heap.size k627 n628 y631 l629 cp632 pp630, (V254.heap.size, .int .i64 3, .string ⟨nm615.toArray⟩, .slice (some ⟨V679.heap.size, 0, none⟩) 2 2, .int .i64 pl252), (w.heap.size, .int .i64 3, .string ⟨nm615.toArray⟩, .slice (some ⟨V679.heap.size, 0, none⟩) 2 2, .int .i64 pl252)]) := hj (NSt.set4 (pre := [nB V663.heap.size k657 n658 y661 l659 cp662 pp660, nB V633.heap.size k627 n628 y631 l629 cp632 pp630, (V254.heap.size, .int .i64 3, .string ⟨nm615.toArray⟩, .slice (some ⟨V679.heap.size, 0, none⟩) 2 2, .int .i64 pl252)]) HN685.out)
      have HK689 : Hid (Rw (V254.heap.size + 1) (S4 W686 w.heap.size (.int .i64 3) (.string ⟨nm615.toArray⟩) (.slice (some ⟨V679.heap.size, 0, none⟩) 2 2) (.int .i64 pl252)) [V663.heap.size, V633.heap.size, V254.heap.size, w.heap.size] [(.mk k627 n628 l629 pp630), (.mk k657 n658 l659 pp660)] (some ⟨V679.heap.size, 0, none⟩)) := hj (HK687.out.set4 (List.Mem.tail _ (List.Mem.tail _ (List.Mem.tail _ (List.Mem.head _)))))
      have HW : Hid (w.heap.size ≤ (V254.heap.size + 1)) := hj (Nat.le_succ_of_le (show w.heap.size ≤ V254.heap.size from (HN685.out.bx _ (List.Mem.tail _ (List.Mem.tail _ (List.Mem.head _)))).1))
      have HF : Hid (RFinN C w (stmtO C.ts C.s.size ex st f) false p (.returned (.agg #[.int .i64 3, .string ⟨nm615.toArray⟩, .slice (some ⟨V679.heap.size, 0, none⟩) 2 2, .int .i64 pl252])) (S4 W686 w.heap.size (.int .i64 3) (.string ⟨nm615.toArray⟩) (.slice (some ⟨V679.heap.size, 0, none⟩) 2 2) (.int .i64 pl252))) := hj (NSt.fin (n := nm615) (l := [(.mk k627 n628 l629 pp630), (.mk k657 n658 l659 pp660)]) HN688.out HW.out (by rw [HR.out]; exact HM.out) HK689.out)
      clear HN685 HN688 HW HM HK689 HK687
      go_wp2_with fail
      exact ret_node rfl rfl rfl (by simp [go_sem, r0]) (by simp [go_sem, r1]) (by simp [go_sem, r2]) (by simp [go_sem, r3]) HF.out
  · obtain ⟨rfl, hHI⟩ : b = false ∧ isT C.ts p [109, 111, 100, 117, 108, 101] = true := by
      have := HE259.out
      cases b <;> simp_all
    have HI := hj hHI
    clear hHI
    have HT12 : Hid (R = (Tot (nameP C.ts) false (p + 1)).bind fun v0 q0 => (paramsP C.ts C.s.size f q0).bind fun v1 q1 => (blockO C.ts C.s.size st f q1).bind fun v2 q2 => .ok (.mk 2 v0 [v1, v2] (pl252 : Int)) q2) := by
      show R = _
      rw [HT.out, tot_go, stmtO, if_pos (show isT C.ts p wModule = true from HI.out), Hpl252.out]
      rfl
    clear HT
    obtain ⟨x6901, x6902, x6903, x6904⟩ : V276.cell? ⟨C.pb, 2, none⟩ = some (.int .i64 p) ∧ V276.frozen? ⟨C.pb, 2, none⟩ = false ∧ p < C.ts.length ∧ C.ts.length ≤ 4096 := ⟨HN277.out.st.cellsF.2.2.1, HN277.out.st.cellsF.2.2.2.2.1, isT_lt HI.out, HN277.out.st.len⟩
    have x6905 : IntKind.i64.wrap ((p : Int) + 1) = (p : Int) + 1 := IntWalk.i64_in _ (by omega)
    have x6906 := hj x6903
    clear x6903 x6904
    go_upto_region 26 with (fail)
    clear x6901 x6902 x6905
    have HN691 : Hid (NSt C w (World.setCell V276 ⟨C.pb, 2, none⟩ (.int .i64 ((p : Int) + 1))) false (p + 1) [(V254.heap.size, .int .i64 0, .string ⟨#[]⟩, .slice none 0 0, .int .i64 pl252), zB w.heap.size]) := hj (HN277.out.step (q := p + 1) x6906.out)
    clear HN277
    generalize World.setCell V276 ⟨C.pb, 2, none⟩ (.int .i64 ((p : Int) + 1)) = W692 at HN691 ⊢
    obtain ⟨n0, n1, n2, n3, nf⟩ : BoxF W692 (V254.heap.size) (.int .i64 0) (.string ⟨#[]⟩) (.slice none 0 0) (.int .i64 pl252) := HN691.out.at_ (List.Mem.head _)
    go_upto_region 27 with (fail)
    clear n0 n1 n2 n3 nf
    have HN693 : Hid (NSt C w (World.setCell W692 ⟨V254.heap.size, 0, none⟩ (.int .i64 2)) false (p + 1) [(V254.heap.size, .int .i64 2, .string ⟨#[]⟩, .slice none 0 0, .int .i64 pl252), zB w.heap.size]) := hj (NSt.set0 (pre := []) HN691.out)
    clear HN691
    generalize World.setCell W692 ⟨V254.heap.size, 0, none⟩ (.int .i64 2) = W694 at HN693 ⊢
    have c695 := rnameq_any C false (p + 1) W694 HN693.out.st
    go_wp2_with fail
    (with_reducible refine c695.mono ?_)
    clear c695
    rintro e V702 ⟨b696, q697, nm701, hM698, rfl, hs699, ho700⟩
    have HN703 : Hid (NSt C w V702 b696 q697 [(V254.heap.size, .int .i64 2, .string ⟨#[]⟩, .slice none 0 0, .int .i64 pl252), zB w.heap.size]) := hj (HN693.out.call hs699 ho700)
    clear HN693 ho700 hs699
    have HT13 : Hid (R = (Tot (paramsP C.ts C.s.size f) b696 q697).bind fun v1 q1 => (blockO C.ts C.s.size st f q1).bind fun v2 q2 => .ok (.mk 2 nm701 [v1, v2] (pl252 : Int)) q2) := by
      show R = _
      rw [HT12.out, hM698.bind, ← tot_bind]
    clear hM698 HT12
    obtain ⟨n0, n1, n2, n3, nf⟩ : BoxF V702 (V254.heap.size) (.int .i64 2) (.string ⟨#[]⟩) (.slice none 0 0) (.int .i64 pl252) := HN703.out.at_ (List.Mem.head _)
    go_upto_region 28 with (fail)
    clear n0 n1 n2 n3 nf
    have HN704 : Hid (NSt C w (World.setCell V702 ⟨V254.heap.size, 1, none⟩ (.string ⟨nm701.toArray⟩)) b696 q697 [(V254.heap.size, .int .i64 2, .string ⟨nm701.toArray⟩, .slice none 0 0, .int .i64 pl252), zB w.heap.size]) := hj (NSt.set1 (pre := []) HN703.out)
    clear HN703
    generalize World.setCell V702 ⟨V254.heap.size, 1, none⟩ (.string ⟨nm701.toArray⟩) = W705 at HN704 ⊢
    have c706 := rparams_any C f hf _ _ _ HN704.out.st (fun e => HNE.out (by rw [HT13.out, e]; rfl))
    unfold RFinN at c706
    go_wp2_with fail
    (with_reducible refine c706.mono ?_)
    clear c706
    rintro e V719 ⟨b707, q708, k713, n714, l715, pp716, y717, cp718, hM709, rfl, hk712, hs710, ho711⟩
    have HN720 : Hid (NSt C w V719 b707 q708 [(V254.heap.size, .int .i64 2, .string ⟨nm701.toArray⟩, .slice none 0 0, .int .i64 pl252), zB w.heap.size]) := hj (HN704.out.call hs710 ho711)
    have HK721 : Hid (Rw (V254.heap.size + 1) V719 [V254.heap.size, w.heap.size] l715 y717) := hj (HN704.out.row (HN704.out.lt _ (List.Mem.head _)) hk712)
    clear HN704 ho711 hs710 hk712
    have HT14 : Hid (R = (Tot (blockO C.ts C.s.size st f) b707 q708).bind fun v2 q2 => .ok (.mk 2 nm701 [(.mk k713 n714 l715 pp716), v2] (pl252 : Int)) q2) := by
      show R = _
      rw [HT13.out, hM709.bind, ← tot_bind]
    clear hM709 HT13
    go_upto_region 29 with (fail)
    have HN722 : Hid (NSt C w (World.alloc V719 (.cells #[.int .i64 k713, .string ⟨n714.toArray⟩, .slice y717 l715.length cp718, .int .i64 pp716] 53)) b707 q708 [nB V719.heap.size k713 n714 y717 l715 cp718 pp716, (V254.heap.size, .int .i64 2, .string ⟨nm701.toArray⟩, .slice none 0 0, .int .i64 pl252), zB w.heap.size]) := hj (HN720.out.alloc _ _ _ _)
    have HK724 : Hid (Rw (V254.heap.size + 1) (World.alloc V719 (.cells #[.int .i64 k713, .string ⟨n714.toArray⟩, .slice y717 l715.length cp718, .int .i64 pp716] 53)) [V719.heap.size, V254.heap.size, w.heap.size] l715 y717) := hj (HK721.out.alloc _)
    clear HN720 HK721
    generalize World.alloc V719 (.cells #[.int .i64 k713, .string ⟨n714.toArray⟩, .slice y717 l715.length cp718, .int .i64 pp716] 53) = W723 at HN722 HK724 ⊢
    have c725 := rblock_any C st HHB.out f hf _ _ _ HN722.out.st (fun e => HNE.out (by rw [HT14.out, e]; rfl))
    unfold RFinN at c725
    go_wp2_with fail
    (with_reducible refine c725.mono ?_)
    clear c725
    rintro e V738 ⟨b726, q727, k732, n733, l734, pp735, y736, cp737, hM728, rfl, hk731, hs729, ho730⟩
    have HN739 : Hid (NSt C w V738 b726 q727 [nB V719.heap.size k713 n714 y717 l715 cp718 pp716, (V254.heap.size, .int .i64 2, .string ⟨nm701.toArray⟩, .slice none 0 0, .int .i64 pl252), zB w.heap.size]) := hj (HN722.out.call hs729 ho730)
    have HK740 : Hid (Rw (V254.heap.size + 1) V738 [V719.heap.size, V254.heap.size, w.heap.size] l715 y717) := hj (HK724.out.call (Nat.lt_succ_of_le (Nat.le_of_lt (Nat.lt_of_lt_of_le HN722.out.pb (show w.heap.size ≤ V254.heap.size from (HN722.out.bx _ (List.Mem.tail _ (List.Mem.head _))).1)))) ho730)
    have HK741 : Hid (Rw (V254.heap.size + 1) V738 [V719.heap.size, V254.heap.size, w.heap.size] l734 y736) := hj (HN722.out.row (HN722.out.lt _ (List.Mem.tail _ (List.Mem.head _))) hk731)
    clear HN722 HK724 ho730 hs729 hk731
    have HM : Hid (Mt R b726 q727 (.mk 2 nm701 [(.mk k713 n714 l715 pp716), (.mk k732 n733 l734 pp735)] (pl252 : Int))) := by
      show Mt _ _ _ _
      rw [HT14.out, hM728.bind]
      exact Mt.ret _ _ _
    clear hM728 HT14
    go_upto_region 30 with (fail)
    have HN742 : Hid (NSt C w (World.alloc V738 (.cells #[.int .i64 k732, .string ⟨n733.toArray⟩, .slice y736 l734.length cp737, .int .i64 pp735] 53)) b726 q727 [nB V738.heap.size k732 n733 y736 l734 cp737 pp735, nB V719.heap.size k713 n714 y717 l715 cp718 pp716, (V254.heap.size, .int .i64 2, .string ⟨nm701.toArray⟩, .slice none 0 0, .int .i64 pl252), zB w.heap.size]) := hj (HN739.out.alloc _ _ _ _)
    have HK744 : Hid (Rw (V254.heap.size + 1) (World.alloc V738 (.cells #[.int .i64 k732, .string ⟨n733.toArray⟩, .slice y736 l734.length cp737, .int .i64 pp735] 53)) [V738.heap.size, V719.heap.size, V254.heap.size, w.heap.size] l715 y717) := hj (HK740.out.alloc _)
    have HK745 : Hid (Rw (V254.heap.size + 1) (World.alloc V738 (.cells #[.int .i64 k732, .string ⟨n733.toArray⟩, .slice y736 l734.length cp737, .int .i64 pp735] 53)) [V738.heap.size, V719.heap.size, V254.heap.size, w.heap.size] l734 y736) := hj (HK741.out.alloc _)
    clear HN739 HK740 HK741
    generalize World.alloc V738 (.cells #[.int .i64 k732, .string ⟨n733.toArray⟩, .slice y736 l734.length cp737, .int .i64 pp735] 53) = W743 at HN742 HK744 HK745 ⊢
    obtain ⟨u00, u01, u02, u03, u0f⟩ : BoxF W743 (V719.heap.size) (.int .i64 k713) (.string ⟨n714.toArray⟩) (.slice y717 l715.length cp718) (.int .i64 pp716) := HN742.out.at_ (List.Mem.tail _ (List.Mem.head _))
    obtain ⟨u10, u11, u12, u13, u1f⟩ : BoxF W743 (V738.heap.size) (.int .i64 k732) (.string ⟨n733.toArray⟩) (.slice y736 l734.length cp737) (.int .i64 pp735) := HN742.out.at_ (List.Mem.head _)
    obtain ⟨n0, n1, n2, n3, nf⟩ : BoxF W743 (V254.heap.size) (.int .i64 2) (.string ⟨nm701.toArray⟩) (.slice none 0 0) (.int .i64 pl252) := HN742.out.at_ (List.Mem.tail _ (List.Mem.tail _ (List.Mem.head _)))
    have na0 := fun o => al_cell n0 o
    have na1 := fun o => al_cell n1 o
    have na2 := fun o => al_cell n2 o
    have na3 := fun o => al_cell n3 o
    have naf : ∀ ob o, (World.alloc W743 ob).frozen? ⟨V254.heap.size, o, none⟩ = false := fun ob o => ((HN742.out.bx _ (List.Mem.tail _ (List.Mem.tail _ (List.Mem.head _)))).2.alloc ob).facts.2.2.2.2 o
    go_upto_region 63 with (fail)
    clear n0 n1 n2 n3 nf u00 u01 u02 u03 u0f u10 u11 u12 u13 u1f
    clear na0 na1 na2 na3 naf
    have HK746 : Hid (Rw (V254.heap.size + 1) (World.alloc W743 (.cells #[.int .i64 k713, .string ⟨n714.toArray⟩, .slice y717 l715.length cp718, .int .i64 pp716, .int .i64 k732, .string ⟨n733.toArray⟩, .slice y736 l734.length cp737, .int .i64 pp735] 53)) [V738.heap.size, V719.heap.size, V254.heap.size, w.heap.size] [(.mk k713 n714 l715 pp716), (.mk k732 n733 l734 pp735)] (some ⟨W743.heap.size, 0, none⟩)) := hj (Rw.two HN742.out (HN742.out.lt _ (List.Mem.tail _ (List.Mem.tail _ (List.Mem.head _)))) HK744.out HK745.out)
    have HN747 : Hid (NSt C w (World.alloc W743 (.cells #[.int .i64 k713, .string ⟨n714.toArray⟩, .slice y717 l715.length cp718, .int .i64 pp716, .int .i64 k732, .string ⟨n733.toArray⟩, .slice y736 l734.length cp737, .int .i64 pp735] 53)) b726 q727 [nB V738.heap.size k732 n733 y736 l734 cp737 pp735, nB V719.heap.size k713 n714 y717 l715 cp718 pp716, (V254.heap.size, .int .i64 2, .string ⟨nm701.toArray⟩, .slice none 0 0, .int .i64 pl252), zB w.heap.size]) := hj (HN742.out.blk _)
    clear HN742 HK744 HK745
    have HN748 : Hid (NSt C w (World.setCell (World.alloc W743 (.cells #[.int .i64 k713, .string ⟨n714.toArray⟩, .slice y717 l715.length cp718, .int .i64 pp716, .int .i64 k732, .string ⟨n733.toArray⟩, .slice y736 l734.length cp737, .int .i64 pp735] 53)) ⟨V254.heap.size, 2, none⟩ (.slice (some ⟨W743.heap.size, 0, none⟩) 2 2)) b726 q727 [nB V738.heap.size k732 n733 y736 l734 cp737 pp735, nB V719.heap.size k713 n714 y717 l715 cp718 pp716, (V254.heap.size, .int .i64 2, .string ⟨nm701.toArray⟩, .slice (some ⟨W743.heap.size, 0, none⟩) 2 2, .int .i64 pl252), zB w.heap.size]) := hj (NSt.set2 (pre := [nB V738.heap.size k732 n733 y736 l734 cp737 pp735, nB V719.heap.size k713 n714 y717 l715 cp718 pp716]) HN747.out)
    have HK750 : Hid (Rw (V254.heap.size + 1) (World.setCell (World.alloc W743 (.cells #[.int .i64 k713, .string ⟨n714.toArray⟩, .slice y717 l715.length cp718, .int .i64 pp716, .int .i64 k732, .string ⟨n733.toArray⟩, .slice y736 l734.length cp737, .int .i64 pp735] 53)) ⟨V254.heap.size, 2, none⟩ (.slice (some ⟨W743.heap.size, 0, none⟩) 2 2)) [V738.heap.size, V719.heap.size, V254.heap.size, w.heap.size] [(.mk k713 n714 l715 pp716), (.mk k732 n733 l734 pp735)] (some ⟨W743.heap.size, 0, none⟩)) := hj (HK746.out.set (List.Mem.tail _ (List.Mem.tail _ (List.Mem.head _))))
    clear HN747 HK746
    generalize World.setCell (World.alloc W743 (.cells #[.int .i64 k713, .string ⟨n714.toArray⟩, .slice y717 l715.length cp718, .int .i64 pp716, .int .i64 k732, .string ⟨n733.toArray⟩, .slice y736 l734.length cp737, .int .i64 pp735] 53)) ⟨V254.heap.size, 2, none⟩ (.slice (some ⟨W743.heap.size, 0, none⟩) 2 2) = W749 at HN748 HK750 ⊢
    obtain ⟨n0, n1, n2, n3, nf⟩ : BoxF W749 (V254.heap.size) (.int .i64 2) (.string ⟨nm701.toArray⟩) (.slice (some ⟨W743.heap.size, 0, none⟩) 2 2) (.int .i64 pl252) := HN748.out.at_ (List.Mem.tail _ (List.Mem.tail _ (List.Mem.head _)))
    obtain ⟨r0, r1, r2, r3, rf⟩ : BoxF W749 (w.heap.size) (.int .i64 0) (.string ⟨#[]⟩) (.slice none 0 0) (.int .i64 0) := HN748.out.at_ (List.Mem.tail _ (List.Mem.tail _ (List.Mem.tail _ (List.Mem.head _))))
    have HN751 : Hid (NSt C w (S4 W749 w.heap.size (.int .i64 2) (.string ⟨nm701.toArray⟩) (.slice (some ⟨W743.heap.size, 0, none⟩) 2 2) (.int .i64 pl252)) b726 q727 [nB V738.heap.size k732 n733 y736 l734 cp737 pp735, nB V719.heap.size k713 n714 y717 l715 cp718 pp716, (V254.heap.size, .int .i64 2, .string ⟨nm701.toArray⟩, .slice (some ⟨W743.heap.size, 0, none⟩) 2 2, .int .i64 pl252), (w.heap.size, .int .i64 2, .string ⟨nm701.toArray⟩, .slice (some ⟨W743.heap.size, 0, none⟩) 2 2, .int .i64 pl252)]) := hj (NSt.set4 (pre := [nB V738.heap.size k732 n733 y736 l734 cp737 pp735, nB V719.heap.size k713 n714 y717 l715 cp718 pp716, (V254.heap.size, .int .i64 2, .string ⟨nm701.toArray⟩, .slice (some ⟨W743.heap.size, 0, none⟩) 2 2, .int .i64 pl252)]) HN748.out)
    have HK752 : Hid (Rw (V254.heap.size + 1) (S4 W749 w.heap.size (.int .i64 2) (.string ⟨nm701.toArray⟩) (.slice (some ⟨W743.heap.size, 0, none⟩) 2 2) (.int .i64 pl252)) [V738.heap.size, V719.heap.size, V254.heap.size, w.heap.size] [(.mk k713 n714 l715 pp716), (.mk k732 n733 l734 pp735)] (some ⟨W743.heap.size, 0, none⟩)) := hj (HK750.out.set4 (List.Mem.tail _ (List.Mem.tail _ (List.Mem.tail _ (List.Mem.head _)))))
    have HW : Hid (w.heap.size ≤ (V254.heap.size + 1)) := hj (Nat.le_succ_of_le (show w.heap.size ≤ V254.heap.size from (HN748.out.bx _ (List.Mem.tail _ (List.Mem.tail _ (List.Mem.head _)))).1))
    have HF : Hid (RFinN C w (stmtO C.ts C.s.size ex st f) false p (.returned (.agg #[.int .i64 2, .string ⟨nm701.toArray⟩, .slice (some ⟨W743.heap.size, 0, none⟩) 2 2, .int .i64 pl252])) (S4 W749 w.heap.size (.int .i64 2) (.string ⟨nm701.toArray⟩) (.slice (some ⟨W743.heap.size, 0, none⟩) 2 2) (.int .i64 pl252))) := hj (NSt.fin (n := nm701) (l := [(.mk k713 n714 l715 pp716), (.mk k732 n733 l734 pp735)]) HN751.out HW.out (by rw [HR.out]; exact HM.out) HK752.out)
    clear HN748 HN751 HW HM HK752 HK750
    go_wp2_with fail
    exact ret_node rfl rfl rfl (by simp [go_sem, r0]) (by simp [go_sem, r1]) (by simp [go_sem, r2]) (by simp [go_sem, r3]) HF.out
end Go.Proofs.YtpbkeamjdolpgaaGreatDoor
