/-
  Walk: the law of the parts of expressions.
-/
import Derived.Test.YtcagaaacfcpoeaaEa
namespace Go.Proofs.Ytcagaaacfcpoeaa
open Go.RowKit

section
variable {P : Program} {ops : Array Oper} {Q : Exit → Act → World → Prop} {md : Region.Mode} {S : World → Prop} {need : Nat → Bool}
/-- one of two operations comes up -/
theorem wpAnyN_two {i j : Nat} {oi oj : Oper} {fuel : Nat} {listed : Array Bool} {a : Act} {w : World} (hr : Region.ready md ops listed = [i, j]) (hoi : ops[i]? = some oi) (hoj : ops[j]? = some oj)
    (h1 : ∀ K : Act → World → Prop, (∀ a w, (need i = true → S w) → wpAnyN P md ops Q S need fuel (listed.setIfInBounds i true) a w → K a w) → if Region.wanted oi (yielded ops a.tmps) = true then Oper.wp P oi a w K Q else K (a.put oi.dst undef) w)
    (h2 : ∀ K : Act → World → Prop, (∀ a w, (need j = true → S w) → wpAnyN P md ops Q S need fuel (listed.setIfInBounds j true) a w → K a w) → if Region.wanted oj (yielded ops a.tmps) = true then Oper.wp P oj a w K Q else K (a.put oj.dst undef) w) :
    wpAnyN P md ops Q S need (fuel + 1) listed a w := by
  refine ⟨fun h0 => absurd (hr ▸ h0) (by simp), fun k hk => ?_⟩
  rw [hr] at hk
  simp only [List.mem_cons, List.not_mem_nil, or_false] at hk
  rcases hk with rfl | rfl
  · exact wpOp_step hoi (fun K' hK => h1 K' (fun a w hS hW => hK a w ⟨hS, hW⟩))
  · exact wpOp_step hoj (fun K' hK => h2 K' (fun a w hS hW => hK a w ⟨hS, hW⟩))
end
set_option maxRecDepth 100000 in
set_option maxHeartbeats 4000000 in
theorem law_parts (a : Tm) (Aa : Option Addr) (ca : Nat) (v : Int) (b : Tm) (Ab : Option Addr) (cb : Nat) (w : World) (hra : rngT a = true) (_hv : inR v) (hrb : rngT b = true) (ha : ArgsAt w (Old w.heap.size) Aa a.args) (hb : ArgsAt w (Old w.heap.size) Ab b.args) :
    Calls Try.prog 4 #[a.v Aa ca, .int .i64 v, b.v Ab cb] w fun e w' => e = .returned (.bool true) ∧ Below w.heap.size w w' := by
  have HA := Lib.hid ha
  have HBA := Lib.hid hb
  have HRA := Lib.hid hra
  have HRB := Lib.hid hrb
  clear ha hb hra hrb
  have HB0 := Lib.hid ((bAlloc w (.cells #[.int .i64 a.kind, .int .i64 a.n, .string a.name, .slice Aa a.args.length ca] 24)).alloc (by simp) (.cells #[.int .i64 b.kind, .int .i64 b.n, .string b.name, .slice Ab b.args.length cb] 24))
  go_enter Try.func4, Try.ntmps4
  go_upto_region 1 with fail
  obtain ⟨w0, hw0⟩ : ∃ X, Hid (X = (w.alloc (.cells #[.int .i64 a.kind, .int .i64 a.n, .string a.name, .slice Aa a.args.length ca] 24)).alloc (.cells #[.int .i64 b.kind, .int .i64 b.n, .string b.name, .slice Ab b.args.length cb] 24)) := ⟨_, rfl⟩
  have HFA := Lib.hid (show ∀ w', Below w0.heap.size w0 w' → w'.cell? ⟨w.heap.size, 0, none⟩ = some (.int .i64 a.kind) ∧ w'.cell? ⟨w.heap.size, 1, none⟩ = some (.int .i64 a.n) ∧ w'.cell? ⟨w.heap.size, 2, none⟩ = some (.string a.name) ∧ w'.cell? ⟨w.heap.size, 3, none⟩ = some (.slice Aa a.args.length ca) ∧ w.heap.size < w'.heap.size ∧
      w'.cell? ⟨w.heap.size + 1, 0, none⟩ = some (.int .i64 b.kind) ∧ w'.cell? ⟨w.heap.size + 1, 1, none⟩ = some (.int .i64 b.n) ∧ w'.cell? ⟨w.heap.size + 1, 2, none⟩ = some (.string b.name) ∧ w'.cell? ⟨w.heap.size + 1, 3, none⟩ = some (.slice Ab b.args.length cb) ∧ w.heap.size + 1 < w'.heap.size from fun w' hb => by
    have k0 : Blk w0 w.heap.size 24 #[.int .i64 a.kind, .int .i64 a.n, .string a.name, .slice Aa a.args.length ca] := by rw [hw0.out]; exact (Blk.new w _ _).alloc _
    have k1 : Blk w0 (w.heap.size + 1) 24 #[.int .i64 b.kind, .int .i64 b.n, .string b.name, .slice Ab b.args.length cb] := by
      rw [hw0.out]
      have h := Blk.new (w.alloc (.cells #[.int .i64 a.kind, .int .i64 a.n, .string a.name, .slice Aa a.args.length ca] 24)) 24 #[.int .i64 b.kind, .int .i64 b.n, .string b.name, .slice Ab b.args.length cb]
      rwa [World.size_alloc] at h
    have k0 := BlkNext k0 hb
    have k1 := BlkNext k1 hb
    have e0 := k0.cell 0
    have e1 := k0.cell 1
    have e2 := k0.cell 2
    have e3 := k0.cell 3
    have b0 := k1.cell 0
    have b1 := k1.cell 1
    have b2 := k1.cell 2
    have b3 := k1.cell 3
    simp at e0 e1 e2 e3 b0 b1 b2 b3
    exact ⟨e0, e1, e2, e3, k0.lt, b0, b1, b2, b3, k1.lt⟩)
  rw [← hw0.out] at HB0 ⊢
  clear hw0
  have HW0 := Lib.hid (Below.refl w0.heap.size w0)
  go_wp2_with fail
  refine (example8_any w0).mono ?_
  rintro e w1 ⟨rfl, hb⟩
  have HB1 := Lib.hid (bNext HB0.out hb)
  have HW1 := Lib.hid hb
  clear hb
  obtain ⟨e0, e1, e2, e3, el, b0, b1, b2, b3, bl⟩ := HFA.out _ HW1.out
  go_wp2_with fail
  refine (eval6_any b Ab cb w1 HRB.out (ArgsNext HBA.out HB1.out)).mono ?_
  rintro e v2 ⟨⟨A2, c2, rfl, -⟩, hb⟩
  have hbv : Below w0.heap.size w0 v2 := bNext HW1.out hb
  clear hb
  obtain ⟨⟨n, bb, eb⟩, hev2⟩ : ∃ r, evT b = r := ⟨_, rfl⟩
  rw [hev2]
  have HEV2 := Lib.hid hev2
  clear hev2
  clear e0 e1 e2 e3 el b0 b1 b2 b3 bl
  go_upto_region 4 with fail
  obtain ⟨w2, hw2⟩ : ∃ X, Hid (X = v2.alloc (.cells #[.int .i64 bb.kind, .int .i64 bb.n, .string bb.name, .slice A2 bb.args.length c2] 24)) := ⟨_, rfl⟩
  obtain ⟨g2, hg2⟩ : ∃ q, Hid (q = v2.heap.size) := ⟨_, rfl⟩
  rw [← hw2.out, ← hg2.out]
  have HW2 := Lib.hid (show Below w0.heap.size w0 w2 by rw [hw2.out]; exact bNext hbv (bAlloc _ _))
  have HB2 := Lib.hid (bNext HB0.out HW2.out)
  have hk2 : Blk w2 g2 24 #[.int .i64 bb.kind, .int .i64 bb.n, .string bb.name, .slice A2 bb.args.length c2] := by rw [hw2.out, hg2.out]; exact Blk.new _ _ _
  have hbb2 : Below v2.heap.size v2 w2 := by rw [hw2.out]; exact bAlloc _ _
  clear hbv hw2
  clear hk2 hbb2
  by_cases heb : eb = 0
  · subst heb
    have hvb := evT_zero (t := b) (by rw [HEV2.out])
    rw [HEV2.out] at hvb
    have HVB := Lib.hid hvb
    have HNR := Lib.hid (valT_in _ b (Nat.lt_succ_self _) HRB.out n hvb.2)
    clear hvb
    obtain ⟨e0, e1, e2, e3, el, b0, b1, b2, b3, bl⟩ := HFA.out _ HW2.out
    go_wp2_with fail
    refine (replace10_any a Aa ca v b Ab cb w2 (ArgsNext HA.out HB2.out) (ArgsNext HBA.out HB2.out)).mono ?_
    rintro e v3 ⟨⟨A3, c3, rfl, ha3⟩, hb⟩
    have hbv : Below w0.heap.size w0 v3 := bNext HW2.out hb
    have HX3 := Lib.hid (ha3.keep (w' := v3) (G := Old v3.heap.size) (fun _ _ => rfl) (fun _ h => h.2))
    clear hb ha3
    have HR1 := Lib.hid (show rngT (replV a v b).1 = true by
      unfold replV
      split
      · simp [rngT, rngT.go]
      · split
        · simp [rngT, rngT.go]
        · exact rng_put HRB.out a HRA.out)
    have HR2 := Lib.hid (show rngT (replV a v (intC n)).1 = true by
      unfold replV
      split
      · simp [rngT, rngT.go]
      · split
        · simp [rngT, rngT.go]
        · exact rng_put (b := intC n) (by rw [rngT_mk]; simp [rngT.go, HNR.out]) a HRA.out)
    have HPV := Lib.hid (show (replV a v b).2 = 0 → (replV a v (intC n)).2 = 0 → evT (replV a v b).1 = evT (replV a v (intC n)).1 from fun h1 h2 => parts_val (t := a) (y := b) (v := v) (n := n) (by rw [HEV2.out]) (by rw [HEV2.out]) h1 h2)
    obtain ⟨⟨y1, f1⟩, hr1⟩ : ∃ r, replV a v b = r := ⟨_, rfl⟩
    rw [hr1] at HX3 HR1 HPV ⊢
    clear hr1
    clear e0 e1 e2 e3 el b0 b1 b2 b3 bl
    go_upto_region 7 with fail
    obtain ⟨w3, hw3⟩ : ∃ X, Hid (X = v3.alloc (.cells #[.int .i64 y1.kind, .int .i64 y1.n, .string y1.name, .slice A3 y1.args.length c3] 24)) := ⟨_, rfl⟩
    obtain ⟨g3, hg3⟩ : ∃ q, Hid (q = v3.heap.size) := ⟨_, rfl⟩
    rw [← hw3.out, ← hg3.out]
    have HW3 := Lib.hid (show Below w0.heap.size w0 w3 by rw [hw3.out]; exact bNext hbv (bAlloc _ _))
    have HB3 := Lib.hid (bNext HB0.out HW3.out)
    have hk3 : Blk w3 g3 24 #[.int .i64 y1.kind, .int .i64 y1.n, .string y1.name, .slice A3 y1.args.length c3] := by rw [hw3.out, hg3.out]; exact Blk.new _ _ _
    have hbb3 : Below v3.heap.size v3 w3 := by rw [hw3.out]; exact bAlloc _ _
    clear hbv hw3
    have HY3 := Lib.hid (ArgsNext HX3.out hbb3)
    have HK3 := Lib.hid hk3
    clear hk3 hbb3
    obtain ⟨⟨y2, f2⟩, hr2'⟩ : ∃ r, replV a v (intC n) = r := ⟨_, rfl⟩
    rw [hr2'] at HR2 HPV
    have hr2 := Lib.hid hr2'
    clear hr2'
    go_cut [12, 13] from 37 to 45 (fun s12 s13 wx => ∃ g A c, s12 = .pointer (some ⟨g, 0, none⟩) ∧ s13 = .int .i64 f2 ∧ Blk wx g 24 #[.int .i64 y2.kind, .int .i64 y2.n, .string y2.name, .slice A y2.args.length c] ∧ ArgsAt wx (Old wx.heap.size) A y2.args ∧ Below w3.heap.size w3 wx)
    case first =>
      obtain ⟨D, hD⟩ : ∃ X, Hid (X = w3.drew) := ⟨_, rfl⟩
      have hD3 : Below w3.heap.size w3 D := by rw [hD.out]; exact bDrewN (Below.refl _ _) 1
      refine wp_region_N (fun w' => Below w3.heap.size w3 w') (fun _ => true) (by kernel_rfl) ?_
      rw [← hD.out]
      have hD := hD3
      clear hD3
      refine wpAnyN_take (i := 0) (v := ?v1) rfl (by kernel_rfl) (by kernel_rfl) (by kernel_rfl) (by kernel_rfl) (fun _ _ _ h => h) (Or.inl ⟨by rfl, ?hy1⟩) (by assumption) ?_
      case hy1 => intro w hSw; obtain ⟨e0, e1, e2, e3, el, b0, b1, b2, b3, bl⟩ := HFA.out _ (bNext HW3.out hSw); go_simp; try with_reducible rfl
      simp only [Act.put, List.getElem_toArray, List.getElem_cons_zero, List.setIfInBounds_toArray, List.set_cons_zero, List.set_cons_succ]
      refine wpAnyN_take (i := 1) (v := ?v2) rfl (by kernel_rfl) (by kernel_rfl) (by kernel_rfl) (by kernel_rfl) (fun _ _ _ h => h) (Or.inl ⟨by rfl, ?hy2⟩) (by assumption) ?_
      case hy2 => intro w hSw; (try dsimp only at hSw); go_simp; try with_reducible rfl
      simp only [Act.put, List.getElem_toArray, List.getElem_cons_zero, List.getElem_cons_succ, List.setIfInBounds_toArray, List.set_cons_zero, List.set_cons_succ]
      refine wpAnyN_take (i := 2) (v := ?v3) rfl (by kernel_rfl) (by kernel_rfl) (by kernel_rfl) (by kernel_rfl) (fun _ _ _ h => h) (Or.inl ⟨by rfl, ?hy3⟩) (by assumption) ?_
      case hy3 => intro w hSw; (try dsimp only at hSw); go_simp; try with_reducible rfl
      simp only [Act.put, List.getElem_toArray, List.getElem_cons_zero, List.getElem_cons_succ, List.setIfInBounds_toArray, List.set_cons_zero, List.set_cons_succ]
      refine wpAnyN_two (i := 3) (j := 8) (by kernel_rfl) rfl rfl (fun K hK => ?_) (fun K hK => ?_)
      · simp only [List.getElem_toArray, List.getElem_cons_zero, List.getElem_cons_succ]
        go_simp
        refine (number11_any n D).mono ?_
        rintro e d1 ⟨rfl, hb⟩
        have hd1 : Below w3.heap.size w3 d1 := bNext hD hb
        refine hK _ _ (fun _ => hd1) ?_
        clear hb
        (try simp only [Act.put, List.setIfInBounds_toArray, List.set_cons_zero, List.set_cons_succ])
        refine wpAnyN_two (i := 4) (j := 8) (by kernel_rfl) rfl rfl (fun K hK => ?_) (fun K hK => ?_)
        · simp only [List.getElem_toArray, List.getElem_cons_zero, List.getElem_cons_succ]
          go_simp
          refine (replace10_any a Aa ca v (intC n) none 0 d1 (ArgsNext HA.out (bNext HB3.out hd1)) (.nil _)).mono ?_
          rw [hr2.out]
          rintro e d2 ⟨⟨A9, c9, rfl, ha9⟩, hb⟩
          have hd2 : Below w3.heap.size w3 d2 := bNext hd1 hb
          refine hK _ _ (fun _ => hd2) ?_
          (try simp only [])
          refine wpAnyN_take (i := 5) (v := ?v4) rfl (by kernel_rfl) (by kernel_rfl) (by kernel_rfl) (by kernel_rfl) (fun _ _ _ h => h) (Or.inl ⟨by rfl, ?hy4⟩) (by assumption) ?_
          case hy4 => intro w hSw; (try dsimp only at hSw); go_simp; try with_reducible rfl
          simp only [Act.put, List.getElem_toArray, List.getElem_cons_zero, List.getElem_cons_succ, List.setIfInBounds_toArray, List.set_cons_zero, List.set_cons_succ]
          refine wpAnyN_take (i := 6) (v := ?v5) rfl (by kernel_rfl) (by kernel_rfl) (by kernel_rfl) (by kernel_rfl) (fun _ _ _ h => h) (Or.inl ⟨by rfl, ?hy5⟩) (by assumption) ?_
          case hy5 => intro w hSw; (try dsimp only at hSw); go_simp; try with_reducible rfl
          simp only [Act.put, List.getElem_toArray, List.getElem_cons_zero, List.getElem_cons_succ, List.setIfInBounds_toArray, List.set_cons_zero, List.set_cons_succ]
          refine wpAnyN_take (i := 7) (v := ?v6) rfl (by kernel_rfl) (by kernel_rfl) (by kernel_rfl) (by kernel_rfl) (fun _ _ _ h => h) (Or.inl ⟨by rfl, ?hy6⟩) (by assumption) ?_
          case hy6 => intro w hSw; (try dsimp only at hSw); go_simp; try with_reducible rfl
          simp only [Act.put, List.getElem_toArray, List.getElem_cons_zero, List.getElem_cons_succ, List.setIfInBounds_toArray, List.set_cons_zero, List.set_cons_succ]
          have HX9 := Lib.hid ha9
          clear hb ha9
          refine wpAnyN_one (i := 8) (by kernel_rfl) rfl (fun K hK => ?_)
          simp only [List.getElem_toArray, List.getElem_cons_zero, List.getElem_cons_succ]
          go_simp
          obtain ⟨d3, hwd3⟩ : ∃ X, Hid (X = d2.alloc (.cells #[.int .i64 0, .int .i64 0, .string { data := #[] }, .slice none 0 0] 24)) := ⟨_, rfl⟩
          obtain ⟨g9, hg9⟩ : ∃ q, Hid (q = d2.heap.size) := ⟨_, rfl⟩
          rw [← hwd3.out, ← hg9.out]
          have hba : Below d2.heap.size d2 d3 := by rw [hwd3.out]; exact bAlloc _ _
          have hK9 : Blk d3 g9 24 #[.int .i64 0, .int .i64 0, .string { data := #[] }, .slice none 0 0] := by rw [hwd3.out, hg9.out]; exact Blk.new _ _ _
          have hd3 : Below w3.heap.size w3 d3 := bNext hd2 hba
          refine hK _ _ (fun _ => hd3) ?_
          (try simp only [Act.put, List.setIfInBounds_toArray, List.set_cons_zero, List.set_cons_succ])
          have hsz9 : w3.heap.size ≤ d2.heap.size := hd2.size
          have hne9 : ∀ b, Btw d1.heap.size d2.heap.size b → b ≠ g9 := fun b hb => by rw [hg9.out]; have := hb.2; omega
          have HX9 := Lib.hid (HX9.out.keep (w' := d3) (G := Btw d1.heap.size d2.heap.size) (fun b hbb => hba.block b hbb.2) (fun _ h => h))
          have hz93 : d2.heap.size ≤ d3.heap.size := hba.size
          have HK9 := Lib.hid (show Blk d3 g9 24 #[.int .i64 0, .int .i64 0, .string { data := #[] }, .slice none 0 0] from hK9)
          have hg3 : w3.heap.size ≤ g9 := by rw [hg9.out]; exact hsz9
          have r0 := HK9.out.cell 0
          have f0 := HK9.out.frozen 0
          have r1 := HK9.out.cell 1
          have f1 := HK9.out.frozen 1
          have r2 := HK9.out.cell 2
          have f2 := HK9.out.frozen 2
          have r3 := HK9.out.cell 3
          have f3 := HK9.out.frozen 3
          have rl := HK9.out.lt
          simp at r0 r1 r2 r3
          refine wpAnyN_one (i := 9) (by kernel_rfl) rfl (fun K hK => ?_)
          simp only [List.getElem_toArray, List.getElem_cons_zero, List.getElem_cons_succ]
          go_simp
          have hs9 : Below w3.heap.size w3 ((((d3.setCell ⟨g9, 0, none⟩ (.int .i64 y2.kind)).setCell ⟨g9, 1, none⟩ (.int .i64 y2.n)).setCell ⟨g9, 2, none⟩ (.string y2.name)).setCell ⟨g9, 3, none⟩ (.slice A9 y2.args.length c9)) := (((hd3.setCell (p := ⟨g9, 0, none⟩) hg3 _).setCell (p := ⟨g9, 1, none⟩) hg3 _).setCell (p := ⟨g9, 2, none⟩) hg3 _).setCell (p := ⟨g9, 3, none⟩) hg3 _
          refine hK _ _ (fun _ => hs9) ?_
          (try simp only [Act.put, List.setIfInBounds_toArray, List.set_cons_zero, List.set_cons_succ])
          refine wpAnyN_take (i := 10) (v := ?v7) rfl (by kernel_rfl) (by kernel_rfl) (by kernel_rfl) (by kernel_rfl) (fun _ _ _ h => h) (Or.inl ⟨by rfl, ?hy7⟩) (by assumption) ?_
          case hy7 => intro w hSw; (try dsimp only at hSw); go_simp; try with_reducible rfl
          simp only [Act.put, List.getElem_toArray, List.getElem_cons_zero, List.getElem_cons_succ, List.setIfInBounds_toArray, List.set_cons_zero, List.set_cons_succ]
          refine wpAnyN_done (by kernel_rfl) ?_ _
          go_wp2_with fail
          go_meet
          refine ⟨g9, A9, c9, rfl, rfl, ?_, ?_, ?_⟩
          · have h := (((HK9.out.set_ 0 (.int .i64 y2.kind)).set_ 1 (.int .i64 y2.n)).set_ 2 (.string y2.name)).set_ 3 (.slice A9 y2.args.length c9)
            simpa using h
          · refine HX9.out.keep (fun b hb => ?_) (fun b hb => by have := hb.2; simp; omega)
            repeat rw [heap_setCell_other _ _ _ _ (by simp; exact hne9 b hb)]
          · exact hs9
        · simp only [List.getElem_toArray, List.getElem_cons_zero, List.getElem_cons_succ]
          go_simp
          obtain ⟨d2, hwd2⟩ : ∃ X, Hid (X = d1.alloc (.cells #[.int .i64 0, .int .i64 0, .string { data := #[] }, .slice none 0 0] 24)) := ⟨_, rfl⟩
          obtain ⟨g9, hg9⟩ : ∃ q, Hid (q = d1.heap.size) := ⟨_, rfl⟩
          rw [← hwd2.out, ← hg9.out]
          have hba : Below d1.heap.size d1 d2 := by rw [hwd2.out]; exact bAlloc _ _
          have hK9 : Blk d2 g9 24 #[.int .i64 0, .int .i64 0, .string { data := #[] }, .slice none 0 0] := by rw [hwd2.out, hg9.out]; exact Blk.new _ _ _
          have hd2 : Below w3.heap.size w3 d2 := bNext hd1 hba
          refine hK _ _ (fun _ => hd2) ?_
          (try simp only [Act.put, List.setIfInBounds_toArray, List.set_cons_zero, List.set_cons_succ])
          refine wpAnyN_one (i := 4) (by kernel_rfl) rfl (fun K hK => ?_)
          simp only [List.getElem_toArray, List.getElem_cons_zero, List.getElem_cons_succ]
          go_simp
          refine (replace10_any a Aa ca v (intC n) none 0 d2 (ArgsNext HA.out (bNext HB3.out hd2)) (.nil _)).mono ?_
          rw [hr2.out]
          rintro e d3 ⟨⟨A9, c9, rfl, ha9⟩, hb⟩
          have hd3 : Below w3.heap.size w3 d3 := bNext hd2 hb
          refine hK _ _ (fun _ => hd3) ?_
          (try simp only [])
          refine wpAnyN_take (i := 5) (v := ?v8) rfl (by kernel_rfl) (by kernel_rfl) (by kernel_rfl) (by kernel_rfl) (fun _ _ _ h => h) (Or.inl ⟨by rfl, ?hy8⟩) (by assumption) ?_
          case hy8 => intro w hSw; (try dsimp only at hSw); go_simp; try with_reducible rfl
          simp only [Act.put, List.getElem_toArray, List.getElem_cons_zero, List.getElem_cons_succ, List.setIfInBounds_toArray, List.set_cons_zero, List.set_cons_succ]
          refine wpAnyN_take (i := 6) (v := ?v9) rfl (by kernel_rfl) (by kernel_rfl) (by kernel_rfl) (by kernel_rfl) (fun _ _ _ h => h) (Or.inl ⟨by rfl, ?hy9⟩) (by assumption) ?_
          case hy9 => intro w hSw; (try dsimp only at hSw); go_simp; try with_reducible rfl
          simp only [Act.put, List.getElem_toArray, List.getElem_cons_zero, List.getElem_cons_succ, List.setIfInBounds_toArray, List.set_cons_zero, List.set_cons_succ]
          refine wpAnyN_take (i := 7) (v := ?v10) rfl (by kernel_rfl) (by kernel_rfl) (by kernel_rfl) (by kernel_rfl) (fun _ _ _ h => h) (Or.inl ⟨by rfl, ?hy10⟩) (by assumption) ?_
          case hy10 => intro w hSw; (try dsimp only at hSw); go_simp; try with_reducible rfl
          simp only [Act.put, List.getElem_toArray, List.getElem_cons_zero, List.getElem_cons_succ, List.setIfInBounds_toArray, List.set_cons_zero, List.set_cons_succ]
          have hsz9 : w3.heap.size ≤ d1.heap.size := hd1.size
          have HX9 := Lib.hid (ha9.keep (w' := d3) (G := Btw d2.heap.size d3.heap.size) (fun _ _ => rfl) (fun _ h => h))
          have hne9 : ∀ b, Btw d2.heap.size d3.heap.size b → b ≠ g9 := fun b hb => by rw [hg9.out]; have := hb.1; have := hK9.lt; rw [hg9.out] at this; omega
          have HK9 := Lib.hid (show Blk d3 g9 24 #[.int .i64 0, .int .i64 0, .string { data := #[] }, .slice none 0 0] from BlkNext hK9 hb)
          have hg3 : w3.heap.size ≤ g9 := by rw [hg9.out]; exact hsz9
          have r0 := HK9.out.cell 0
          have f0 := HK9.out.frozen 0
          have r1 := HK9.out.cell 1
          have f1 := HK9.out.frozen 1
          have r2 := HK9.out.cell 2
          have f2 := HK9.out.frozen 2
          have r3 := HK9.out.cell 3
          have f3 := HK9.out.frozen 3
          have rl := HK9.out.lt
          simp at r0 r1 r2 r3
          refine wpAnyN_one (i := 9) (by kernel_rfl) rfl (fun K hK => ?_)
          simp only [List.getElem_toArray, List.getElem_cons_zero, List.getElem_cons_succ]
          go_simp
          have hs9 : Below w3.heap.size w3 ((((d3.setCell ⟨g9, 0, none⟩ (.int .i64 y2.kind)).setCell ⟨g9, 1, none⟩ (.int .i64 y2.n)).setCell ⟨g9, 2, none⟩ (.string y2.name)).setCell ⟨g9, 3, none⟩ (.slice A9 y2.args.length c9)) := (((hd3.setCell (p := ⟨g9, 0, none⟩) hg3 _).setCell (p := ⟨g9, 1, none⟩) hg3 _).setCell (p := ⟨g9, 2, none⟩) hg3 _).setCell (p := ⟨g9, 3, none⟩) hg3 _
          refine hK _ _ (fun _ => hs9) ?_
          (try simp only [Act.put, List.setIfInBounds_toArray, List.set_cons_zero, List.set_cons_succ])
          refine wpAnyN_take (i := 10) (v := ?v11) rfl (by kernel_rfl) (by kernel_rfl) (by kernel_rfl) (by kernel_rfl) (fun _ _ _ h => h) (Or.inl ⟨by rfl, ?hy11⟩) (by assumption) ?_
          case hy11 => intro w hSw; (try dsimp only at hSw); go_simp; try with_reducible rfl
          simp only [Act.put, List.getElem_toArray, List.getElem_cons_zero, List.getElem_cons_succ, List.setIfInBounds_toArray, List.set_cons_zero, List.set_cons_succ]
          refine wpAnyN_done (by kernel_rfl) ?_ _
          go_wp2_with fail
          go_meet
          refine ⟨g9, A9, c9, rfl, rfl, ?_, ?_, ?_⟩
          · have h := (((HK9.out.set_ 0 (.int .i64 y2.kind)).set_ 1 (.int .i64 y2.n)).set_ 2 (.string y2.name)).set_ 3 (.slice A9 y2.args.length c9)
            simpa using h
          · refine HX9.out.keep (fun b hb => ?_) (fun b hb => by have := hb.2; simp; omega)
            repeat rw [heap_setCell_other _ _ _ _ (by simp; exact hne9 b hb)]
          · exact hs9
      · simp only [List.getElem_toArray, List.getElem_cons_zero, List.getElem_cons_succ]
        go_simp
        obtain ⟨d1, hwd1⟩ : ∃ X, Hid (X = D.alloc (.cells #[.int .i64 0, .int .i64 0, .string { data := #[] }, .slice none 0 0] 24)) := ⟨_, rfl⟩
        obtain ⟨g9, hg9⟩ : ∃ q, Hid (q = D.heap.size) := ⟨_, rfl⟩
        rw [← hwd1.out, ← hg9.out]
        have hba : Below D.heap.size D d1 := by rw [hwd1.out]; exact bAlloc _ _
        have hK9 : Blk d1 g9 24 #[.int .i64 0, .int .i64 0, .string { data := #[] }, .slice none 0 0] := by rw [hwd1.out, hg9.out]; exact Blk.new _ _ _
        have hd1 : Below w3.heap.size w3 d1 := bNext hD hba
        refine hK _ _ (fun _ => hd1) ?_
        (try simp only [Act.put, List.setIfInBounds_toArray, List.set_cons_zero, List.set_cons_succ])
        refine wpAnyN_one (i := 3) (by kernel_rfl) rfl (fun K hK => ?_)
        simp only [List.getElem_toArray, List.getElem_cons_zero, List.getElem_cons_succ]
        go_simp
        refine (number11_any n d1).mono ?_
        rintro e d2 ⟨rfl, hb⟩
        have hd2 : Below w3.heap.size w3 d2 := bNext hd1 hb
        refine hK _ _ (fun _ => hd2) ?_
        have hK92 := BlkNext hK9 hb
        clear hb
        (try simp only [Act.put, List.setIfInBounds_toArray, List.set_cons_zero, List.set_cons_succ])
        refine wpAnyN_one (i := 4) (by kernel_rfl) rfl (fun K hK => ?_)
        simp only [List.getElem_toArray, List.getElem_cons_zero, List.getElem_cons_succ]
        go_simp
        refine (replace10_any a Aa ca v (intC n) none 0 d2 (ArgsNext HA.out (bNext HB3.out hd2)) (.nil _)).mono ?_
        rw [hr2.out]
        rintro e d3 ⟨⟨A9, c9, rfl, ha9⟩, hb⟩
        have hd3 : Below w3.heap.size w3 d3 := bNext hd2 hb
        refine hK _ _ (fun _ => hd3) ?_
        (try simp only [])
        refine wpAnyN_take (i := 5) (v := ?v12) rfl (by kernel_rfl) (by kernel_rfl) (by kernel_rfl) (by kernel_rfl) (fun _ _ _ h => h) (Or.inl ⟨by rfl, ?hy12⟩) (by assumption) ?_
        case hy12 => intro w hSw; (try dsimp only at hSw); go_simp; try with_reducible rfl
        simp only [Act.put, List.getElem_toArray, List.getElem_cons_zero, List.getElem_cons_succ, List.setIfInBounds_toArray, List.set_cons_zero, List.set_cons_succ]
        refine wpAnyN_take (i := 6) (v := ?v13) rfl (by kernel_rfl) (by kernel_rfl) (by kernel_rfl) (by kernel_rfl) (fun _ _ _ h => h) (Or.inl ⟨by rfl, ?hy13⟩) (by assumption) ?_
        case hy13 => intro w hSw; (try dsimp only at hSw); go_simp; try with_reducible rfl
        simp only [Act.put, List.getElem_toArray, List.getElem_cons_zero, List.getElem_cons_succ, List.setIfInBounds_toArray, List.set_cons_zero, List.set_cons_succ]
        refine wpAnyN_take (i := 7) (v := ?v14) rfl (by kernel_rfl) (by kernel_rfl) (by kernel_rfl) (by kernel_rfl) (fun _ _ _ h => h) (Or.inl ⟨by rfl, ?hy14⟩) (by assumption) ?_
        case hy14 => intro w hSw; (try dsimp only at hSw); go_simp; try with_reducible rfl
        simp only [Act.put, List.getElem_toArray, List.getElem_cons_zero, List.getElem_cons_succ, List.setIfInBounds_toArray, List.set_cons_zero, List.set_cons_succ]
        have hsz9 : w3.heap.size ≤ D.heap.size := hD.size
        have HX9 := Lib.hid (ha9.keep (w' := d3) (G := Btw d2.heap.size d3.heap.size) (fun _ _ => rfl) (fun _ h => h))
        have hne9 : ∀ b, Btw d2.heap.size d3.heap.size b → b ≠ g9 := fun b hb => by have := hb.1; have := hK92.lt; omega
        have HK9 := Lib.hid (show Blk d3 g9 24 #[.int .i64 0, .int .i64 0, .string { data := #[] }, .slice none 0 0] from BlkNext hK92 hb)
        have hg3 : w3.heap.size ≤ g9 := by rw [hg9.out]; exact hsz9
        have r0 := HK9.out.cell 0
        have f0 := HK9.out.frozen 0
        have r1 := HK9.out.cell 1
        have f1 := HK9.out.frozen 1
        have r2 := HK9.out.cell 2
        have f2 := HK9.out.frozen 2
        have r3 := HK9.out.cell 3
        have f3 := HK9.out.frozen 3
        have rl := HK9.out.lt
        simp at r0 r1 r2 r3
        refine wpAnyN_one (i := 9) (by kernel_rfl) rfl (fun K hK => ?_)
        simp only [List.getElem_toArray, List.getElem_cons_zero, List.getElem_cons_succ]
        go_simp
        have hs9 : Below w3.heap.size w3 ((((d3.setCell ⟨g9, 0, none⟩ (.int .i64 y2.kind)).setCell ⟨g9, 1, none⟩ (.int .i64 y2.n)).setCell ⟨g9, 2, none⟩ (.string y2.name)).setCell ⟨g9, 3, none⟩ (.slice A9 y2.args.length c9)) := (((hd3.setCell (p := ⟨g9, 0, none⟩) hg3 _).setCell (p := ⟨g9, 1, none⟩) hg3 _).setCell (p := ⟨g9, 2, none⟩) hg3 _).setCell (p := ⟨g9, 3, none⟩) hg3 _
        refine hK _ _ (fun _ => hs9) ?_
        (try simp only [Act.put, List.setIfInBounds_toArray, List.set_cons_zero, List.set_cons_succ])
        refine wpAnyN_take (i := 10) (v := ?v15) rfl (by kernel_rfl) (by kernel_rfl) (by kernel_rfl) (by kernel_rfl) (fun _ _ _ h => h) (Or.inl ⟨by rfl, ?hy15⟩) (by assumption) ?_
        case hy15 => intro w hSw; (try dsimp only at hSw); go_simp; try with_reducible rfl
        simp only [Act.put, List.getElem_toArray, List.getElem_cons_zero, List.getElem_cons_succ, List.setIfInBounds_toArray, List.set_cons_zero, List.set_cons_succ]
        refine wpAnyN_done (by kernel_rfl) ?_ _
        go_wp2_with fail
        go_meet
        refine ⟨g9, A9, c9, rfl, rfl, ?_, ?_, ?_⟩
        · have h := (((HK9.out.set_ 0 (.int .i64 y2.kind)).set_ 1 (.int .i64 y2.n)).set_ 2 (.string y2.name)).set_ 3 (.slice A9 y2.args.length c9)
          simpa using h
        · refine HX9.out.keep (fun b hb => ?_) (fun b hb => by have := hb.2; simp; omega)
          repeat rw [heap_setCell_other _ _ _ _ (by simp; exact hne9 b hb)]
        · exact hs9
    case rest =>
      obtain ⟨g4, A4, c4, rfl, rfl, hk4, ha4, hb4⟩ := hcut
      have HK4 := Lib.hid hk4
      have HY4 := Lib.hid ha4
      have HBc := Lib.hid (bNext HB3.out hb4)
      have HWc := Lib.hid (bNext HW3.out hb4)
      have HK34 := Lib.hid (BlkNext HK3.out hb4)
      have HY34 := Lib.hid (ArgsNext HY3.out hb4)
      clear hk4 ha4 hb4
      by_cases hf1 : f1 = 0
      · subst hf1
        by_cases hf2 : f2 = 0
        · subst hf2
          have HEQ := Lib.hid (HPV.out rfl rfl)
          have HBL := Lib.hid (evT_ball (t := y1))
          have r0 := HK34.out.cell 0
          have f0 := HK34.out.frozen 0
          have r1 := HK34.out.cell 1
          have f1 := HK34.out.frozen 1
          have r2 := HK34.out.cell 2
          have f2 := HK34.out.frozen 2
          have r3 := HK34.out.cell 3
          have f3 := HK34.out.frozen 3
          have rl := HK34.out.lt
          simp at r0 r1 r2 r3
          clear f0 f1 f2 f3
          go_wp2_with fail
          refine (eval6_any y1 A3 c3 wc HR1.out HY34.out).mono ?_
          rintro e v5 ⟨⟨A5, c5, rfl, ha5⟩, hb⟩
          have hbv : Below w0.heap.size w0 v5 := bNext HWc.out hb
          have HX5 := Lib.hid (ha5.keep (w' := v5) (G := Old v5.heap.size) (fun _ _ => rfl) (fun _ h => h.2))
          have HK5' := Lib.hid (BlkNext HK4.out hb)
          have HY5' := Lib.hid (ArgsNext HY4.out hb)
          clear hb ha5 r0 r1 r2 r3 rl
          obtain ⟨⟨x, p, h⟩, hev⟩ : ∃ r, evT y1 = r := ⟨_, rfl⟩
          rw [hev] at HX5 HEQ HBL ⊢
          clear hev
          go_upto_region 11 with fail
          obtain ⟨w5, hw5⟩ : ∃ X, Hid (X = v5.alloc (.cells #[.int .i64 p.kind, .int .i64 p.n, .string p.name, .slice A5 p.args.length c5] 24)) := ⟨_, rfl⟩
          obtain ⟨g5, hg5⟩ : ∃ q, Hid (q = v5.heap.size) := ⟨_, rfl⟩
          rw [← hw5.out, ← hg5.out]
          have HW5 := Lib.hid (show Below w0.heap.size w0 w5 by rw [hw5.out]; exact bNext hbv (bAlloc _ _))
          have HB5 := Lib.hid (bNext HB0.out HW5.out)
          have hk5 : Blk w5 g5 24 #[.int .i64 p.kind, .int .i64 p.n, .string p.name, .slice A5 p.args.length c5] := by rw [hw5.out, hg5.out]; exact Blk.new _ _ _
          have hbb5 : Below v5.heap.size v5 w5 := by rw [hw5.out]; exact bAlloc _ _
          clear hbv hw5
          have HP5 := Lib.hid (ArgsNext HX5.out hbb5)
          have HKP5 := Lib.hid hk5
          have HK6' := Lib.hid (BlkNext HK5'.out hbb5)
          have HY6' := Lib.hid (ArgsNext HY5'.out hbb5)
          clear hk5 hbb5
          have r0 := HK6'.out.cell 0
          have f0 := HK6'.out.frozen 0
          have r1 := HK6'.out.cell 1
          have f1 := HK6'.out.frozen 1
          have r2 := HK6'.out.cell 2
          have f2 := HK6'.out.frozen 2
          have r3 := HK6'.out.cell 3
          have f3 := HK6'.out.frozen 3
          have rl := HK6'.out.lt
          simp at r0 r1 r2 r3
          clear f0 f1 f2 f3
          go_wp2_with fail
          refine (eval6_any y2 A4 c4 w5 HR2.out HY6'.out).mono ?_
          rw [← HEQ.out]
          rintro e v6 ⟨⟨A6, c6, rfl, ha6⟩, hb⟩
          have hbv : Below w0.heap.size w0 v6 := bNext HW5.out hb
          have HX6 := Lib.hid (ha6.keep (w' := v6) (G := Old v6.heap.size) (fun _ _ => rfl) (fun _ h => h.2))
          have HP6 := Lib.hid (ArgsNext HP5.out hb)
          have HKP6 := Lib.hid (BlkNext HKP5.out hb)
          clear hb ha6 r0 r1 r2 r3 rl
          go_upto_region 12 with fail
          obtain ⟨w6, hw6⟩ : ∃ X, Hid (X = v6.alloc (.cells #[.int .i64 p.kind, .int .i64 p.n, .string p.name, .slice A6 p.args.length c6] 24)) := ⟨_, rfl⟩
          obtain ⟨g6, hg6⟩ : ∃ q, Hid (q = v6.heap.size) := ⟨_, rfl⟩
          rw [← hw6.out, ← hg6.out]
          have HW6 := Lib.hid (show Below w0.heap.size w0 w6 by rw [hw6.out]; exact bNext hbv (bAlloc _ _))
          have HB6 := Lib.hid (bNext HB0.out HW6.out)
          have hk6 : Blk w6 g6 24 #[.int .i64 p.kind, .int .i64 p.n, .string p.name, .slice A6 p.args.length c6] := by rw [hw6.out, hg6.out]; exact Blk.new _ _ _
          have hbb6 : Below v6.heap.size v6 w6 := by rw [hw6.out]; exact bAlloc _ _
          clear hbv hw6
          have HQ6 := Lib.hid (ArgsNext HX6.out hbb6)
          have HKQ6 := Lib.hid hk6
          have HP7 := Lib.hid (ArgsNext HP6.out hbb6)
          have HKP7 := Lib.hid (BlkNext HKP6.out hbb6)
          clear hk6 hbb6
          have r0 := HKP7.out.cell 0
          have f0 := HKP7.out.frozen 0
          have r1 := HKP7.out.cell 1
          have f1 := HKP7.out.frozen 1
          have r2 := HKP7.out.cell 2
          have f2 := HKP7.out.frozen 2
          have r3 := HKP7.out.cell 3
          have f3 := HKP7.out.frozen 3
          have rl := HKP7.out.lt
          simp at r0 r1 r2 r3
          clear f0 f1 f2 f3
          have s0 := HKQ6.out.cell 0
          have f0 := HKQ6.out.frozen 0
          have s1 := HKQ6.out.cell 1
          have f1 := HKQ6.out.frozen 1
          have s2 := HKQ6.out.cell 2
          have f2 := HKQ6.out.frozen 2
          have s3 := HKQ6.out.cell 3
          have f3 := HKQ6.out.frozen 3
          have sl := HKQ6.out.lt
          simp at s0 s1 s2 s3
          clear f0 f1 f2 f3
          by_cases h8 : h = 8
          · subst h8
            have HVP := Lib.hid (HBL.out rfl)
            go_wp2_with fail
            refine (same12_any p p A5 c5 A6 c6 w6 HP7.out HQ6.out).mono ?_
            rw [sameT_refl HVP.out]
            rintro e w7 ⟨rfl, hb⟩
            have HB7 := Lib.hid (bNext HB6.out hb)
            clear hb
            go_wp2_with fail
            go_ret
            exact ⟨rfl, HB7.out⟩
          · have q8 : (h != 8) = true := by simpa using h8
            clear h8
            go_wp2_with fail
            go_ret
            exact ⟨rfl, HB6.out⟩
        · have q1 : (f2 != 0) = true := by simpa using hf2
          clear hf2
          go_wp2_with fail
          go_ret
          exact ⟨rfl, HBc.out⟩
      · have q1 : (f1 != 0) = true := by simpa using hf1
        clear hf1
        go_wp2_with fail
        go_ret
        exact ⟨rfl, HBc.out⟩
  · have q1 : (eb != 0) = true := by simpa using heb
    clear heb
    go_wp2_with fail
    go_ret
    exact ⟨rfl, HB2.out⟩
end Go.Proofs.Ytcagaaacfcpoeaa
