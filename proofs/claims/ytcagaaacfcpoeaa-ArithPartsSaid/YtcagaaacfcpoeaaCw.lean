/-
  Walk: the reference replaces a variable.
-/
import Derived.Test.YtcagaaacfcpoeaaCv
namespace Go.Proofs.Ytcagaaacfcpoeaa
open Go.RowKit

/-- what stands while the arguments are made -/
structure CsP (w : World) (t : Tm) (A : Option Addr) (c : Nat) (y : Tm) (Ay : Option Addr) (cy : Nat) (vv : Int) (k : Nat) (v : Value) (rs : List Tr) (wr : World) : Prop where
  below : Below w.heap.size w wr
  box : Blk wr w.heap.size 24 #[.int .i64 t.kind, .int .i64 t.n, .string t.name, .slice A t.args.length c]
  box2 : Blk wr (w.heap.size + 1) 24 #[.int .i64 y.kind, .int .i64 y.n, .string y.name, .slice Ay y.args.length cy]
  res : Blk wr (w.heap.size + 2) 24 #[.int .i64 0, .int .i64 0, .string { data := #[] }, .slice none 0 0]
  cb : Blk wr (w.heap.size + 3) 24 #[.int .i64 t.kind, .int .i64 t.n, .string t.name, v]
  row : Mk wr (w.heap.size + 4) v rs
  len : rs.length = k
  map : rs.map (·.1) = (t.args.take k).map (putT vv y)
theorem CsP.next {w wr w2 w3 : World} {t x y : Tm} {A Ay : Option Addr} {c cy k : Nat} {vv : Int} {v v' : Value} {rs : List Tr} (h : CsP w t A c y Ay cy vv k v rs wr) (hx : t.args[k]? = some x) {o : Obj} {A4 : Option Addr} {c4 : Nat}
    (hb : Below wr.heap.size wr w2) (h4 : ArgsAt w2 (Btw wr.heap.size w2.heap.size) A4 (putT vv y x).args)
    (ho : w3.ownsRow (w.heap.size + 4) 24 4 v' (rs.length + 1) (tmCs rs ++ [.int .i64 (putT vv y x).kind, .int .i64 (putT vv y x).n, .string (putT vv y x).name, .slice A4 (putT vv y x).args.length c4])) (hg : (w2.alloc o).grownBy w3 v.ownBlock)
    (hat : v'.ownBlock = v.ownBlock ∨ v'.ownBlock = some (w2.alloc o).heap.size) :
    CsP w t A c y Ay cy vv (k + 1) v' (rs ++ [(putT vv y x, A4, c4)]) (w3.setCell ⟨w.heap.size + 3, 3, none⟩ v') := by
  have zc := h.cb.lt
  have hlt : ∀ g, v.ownBlock = some g → w.heap.size + 4 ≤ g := fun g e => (h.row.own.lt g e).1
  have hne : ∀ b, b < w.heap.size + 4 → v.ownBlock ≠ some b := fun b hb e => by have := hlt b e; omega
  have hM := h.row.app (w2 := w2) (w3 := w3) (v' := v') (r := (putT vv y x, A4, c4)) (o := o) hb h4 (by omega) ho hg hat
  refine ⟨(bGrown ((bNext h.below hb).alloc (by have := h.below.size; have := hb.size; omega) o) (((own_below h.row.own hb).alloc o)) hg (by have := h.below.size; have := hb.size; simp; omega) (by omega)).setCell (p := ⟨w.heap.size + 3, 3, none⟩) (by simp) _, ?_, ?_, ?_, ?_, ?_, ?_, ?_⟩
  · exact (((h.box.below hb (by omega)).alloc o).grown hg (hne _ (by omega))).far (by simp) _
  · exact (((h.box2.below hb (by omega)).alloc o).grown hg (hne _ (by omega))).far (by simp) _
  · exact (((h.res.below hb (by omega)).alloc o).grown hg (hne _ (by omega))).far (by simp) _
  · have := (((h.cb.below hb (by omega)).alloc o).grown hg (hne _ (by omega))).set_ 3 v'
    simpa using this
  · exact hM.stay (fun b hb3 _ => heap_setCell_other _ _ _ _ (by simp; omega)) (by simp [World.setCell])
  · simp [h.len]
  · rw [List.map_append, h.map, List.take_add_one, hx]
    simp
theorem put_yes {t y : Tm} {v : Int} (h0 : t.kind = 0) (h1 : t.n = v) : putT v y t = y := by
  obtain ⟨k, n, s, a⟩ := t; rw [putT_mk]; exact if_pos ⟨h0, h1⟩
theorem put_no {t y : Tm} {v : Int} (h : ¬ (t.kind = 0 ∧ t.n = v)) : putT v y t = .mk t.kind t.n t.name (t.args.map (putT v y)) := by
  obtain ⟨k, n, s, a⟩ := t; rw [putT_mk]; exact if_neg h
set_option maxRecDepth 100000 in
set_option maxHeartbeats 4000000 in
theorem put28_any (vv : Int) (y : Tm) (hy4 : cnt y ≤ 4000) (N : Nat) : ∀ (t : Tm), cnt t < N → cnt t ≤ 4000 → ∀ (A : Option Addr) (c : Nat) (Ay : Option Addr) (cy : Nat) (w : World), ArgsAt w (Old w.heap.size) A t.args → ArgsAt w (Old w.heap.size) Ay y.args →
    Calls Try.prog 28 #[t.v A c, .int .i64 vv, y.v Ay cy] w fun e w' => NewT w (putT vv y t) e w' ∧ Below w.heap.size w w' := by
  obtain ⟨i1, hi1, hy0, hy1, hy2⟩ := info_parts info47
  induction N with
  | zero => intro t h; omega
  | succ N ih =>
    intro t hN h4 A c Ay cy w ha hay
    have hlen := args_le t
    have HA := Lib.hid ha
    have HAY := Lib.hid hay
    have HIH := Lib.hid ih
    clear ha hay ih
    obtain ⟨W, HW⟩ : ∃ X, Hid (X = ((w.alloc (.cells #[.int .i64 t.kind, .int .i64 t.n, .string t.name, .slice A t.args.length c] 24)).alloc (.cells #[.int .i64 y.kind, .int .i64 y.n, .string y.name, .slice Ay y.args.length cy] 24)).alloc (.cells #[.int .i64 0, .int .i64 0, .string { data := #[] }, .slice none 0 0] 24)) := ⟨_, rfl⟩
    have hbW : Below w.heap.size w W := by rw [HW.out]; exact ((bAlloc w _).alloc (by simp) _).alloc (by simp; omega) _
    have hk0 : Blk W w.heap.size 24 #[.int .i64 t.kind, .int .i64 t.n, .string t.name, .slice A t.args.length c] := by rw [HW.out]; exact ((Blk.new w _ _).alloc _).alloc _
    have hk1 : Blk W (w.heap.size + 1) 24 #[.int .i64 y.kind, .int .i64 y.n, .string y.name, .slice Ay y.args.length cy] := by
      rw [HW.out]
      have h1 := (Blk.new (w.alloc (.cells #[.int .i64 t.kind, .int .i64 t.n, .string t.name, .slice A t.args.length c] 24)) 24 #[.int .i64 y.kind, .int .i64 y.n, .string y.name, .slice Ay y.args.length cy]).alloc (.cells #[.int .i64 0, .int .i64 0, .string { data := #[] }, .slice none 0 0] 24)
      rw [World.size_alloc] at h1
      exact h1
    have hk2 : Blk W (w.heap.size + 2) 24 #[.int .i64 0, .int .i64 0, .string { data := #[] }, .slice none 0 0] := by
      rw [HW.out]
      have h1 := Blk.new ((w.alloc (.cells #[.int .i64 t.kind, .int .i64 t.n, .string t.name, .slice A t.args.length c] 24)).alloc (.cells #[.int .i64 y.kind, .int .i64 y.n, .string y.name, .slice Ay y.args.length cy] 24)) 24 #[.int .i64 0, .int .i64 0, .string { data := #[] }, .slice none 0 0]
      rw [World.size_alloc, World.size_alloc] at h1
      exact h1
    have hzW : W.heap.size = w.heap.size + 3 := by rw [HW.out]; simp
    have HB0 := Lib.hid hbW
    have HK0 := Lib.hid hk0
    have HK1 := Lib.hid hk1
    have HK2 := Lib.hid hk2
    have HZW := Lib.hid hzW
    have e0 := hk0.cell 0
    have e1 := hk0.cell 1
    have e2 := hk0.cell 2
    have e3 := hk0.cell 3
    have el := hk0.lt
    have b0 := hk1.cell 0
    have b1 := hk1.cell 1
    have b2 := hk1.cell 2
    have b3 := hk1.cell 3
    have bl := hk1.lt
    simp at e0 e1 e2 e3 b0 b1 b2 b3
    clear hbW hk0 hk1 hk2 hzW
    go_enter Try.func28, Try.ntmps28
    go_upto_region 1 with fail
    rw [← HW.out]
    by_cases hk : t.kind = 0 ∧ t.n = vv
    · obtain ⟨k0, k1⟩ := hk
      have HE := Lib.hid (put_yes (y := y) k0 k1)
      go_wp2_with fail
      refine (copied_any _ y (Nat.lt_succ_self _) hy4 Ay cy W (ArgsNext HAY.out HB0.out)).mono ?_
      rintro e w1 ⟨⟨v, rs, rfl, hrs, hm⟩, hb1⟩
      obtain ⟨A2, c2, rfl, ha2⟩ := made_new hrs hm (by have := args_le y; omega)
      rw [mapT_idL] at ha2
      have HA2 := Lib.hid ha2
      have HR1 := Lib.hid (BlkNext HK2.out hb1)
      have HB1 := Lib.hid (bNext HB0.out hb1)
      have hzW := HZW.out
      clear ha2 hb1 hrs hm
      have r0 := HR1.out.cell 0
      have f0 := HR1.out.frozen 0
      have r1 := HR1.out.cell 1
      have f1 := HR1.out.frozen 1
      have r2 := HR1.out.cell 2
      have f2 := HR1.out.frozen 2
      have r3 := HR1.out.cell 3
      have f3 := HR1.out.frozen 3
      have rl := HR1.out.lt
      simp at r0 r1 r2 r3
      go_wp2_with fail
      refine bodyPost_ret (v := y.v A2 c2) (by simp only [results, Try.results28]; go_simp) rfl ⟨?_, ?_⟩
      · rw [HE.out]
        refine ⟨A2, c2, rfl, ?_⟩
        refine HA2.out.keep (fun b hb => ?_) (fun b hb => ⟨by have := hb.1; omega, by have := hb.2; simpa using this⟩)
        repeat rw [heap_setCell_other _ _ _ _ (by have := hb.1; simp; omega)]
      · repeat refine Below.setCell ?_ (by simp; omega) _
        exact HB1.out
    · have HE := Lib.hid (put_no (y := y) hk)
      by_cases k0 : t.kind = 0
      · have q0 : (t.kind == 0) = true := by simpa using k0
        have q1 : (t.n == vv) = false := by simp; exact fun h => hk ⟨k0, h⟩
        clear k0 hk
        go_wp2_with fail
        rw [HZW.out]
        clear HW
        have hI : CsP w t A c y Ay cy vv 0 (.slice none 0 0) [] (W.alloc (.cells #[.int .i64 t.kind, .int .i64 t.n, .string t.name, .slice none 0 0] 24)) := by
          refine ⟨HB0.out.alloc HB0.out.size _, HK0.out.alloc _, HK1.out.alloc _, HK2.out.alloc _, ?_, Mk.nil _ _, rfl, by simp⟩
          have h := Blk.new W 24 #[.int .i64 t.kind, .int .i64 t.n, .string t.name, .slice none 0 0]
          rwa [HZW.out] at h
        clear e0 e1 e2 e3 el b0 b1 b2 b3 bl
        go_loopw [8] (fun i wr => ∃ k v rs, k ≤ t.args.length ∧ i = .int .i64 ((k : Nat) : Int) ∧ CsP w t A c y Ay cy vv k v rs wr) (fun i _ => t.args.length - (intOf i).toNat)
        case atStart => exact ⟨0, _, _, by omega, rfl, hI⟩
        case round =>
          obtain ⟨k, v, rs, hk, rfl, st⟩ := hrel
          clear hI
          obtain ⟨Av, cv, rfl⟩ := st.row.form
          have HS := Lib.hid st
          have hz := st.below.size
          have zc := st.cb.lt
          have hrl : rs.length ≤ 4000 := by have := st.len; omega
          by_cases hlt : k < t.args.length
          · obtain ⟨b, off, x, A', c', rfl, hB, hx, hx4, hA'⟩ := HA.out.at hlt
            have p3 := st.box.cell 3
            have g0 := st.box2.cell 0
            have g1 := st.box2.cell 1
            have g2 := st.box2.cell 2
            have g3 := st.box2.cell 3
            have c3 := st.cb.cell 3
            have cf := st.cb.frozen 3
            simp at p3 g0 g1 g2 g3 c3
            have hx5 := hx4.below hB st.below
            have HFA := Lib.hid (show ∀ w', Below (w.heap.size + 4) wr w' → w'.cell? ⟨w.heap.size, 3, none⟩ = some (.slice (some ⟨b, off, none⟩) t.args.length c) ∧ w'.cell? ⟨w.heap.size + 1, 0, none⟩ = some (.int .i64 y.kind) ∧ w'.cell? ⟨w.heap.size + 1, 1, none⟩ = some (.int .i64 y.n) ∧ w'.cell? ⟨w.heap.size + 1, 2, none⟩ = some (.string y.name) ∧ w'.cell? ⟨w.heap.size + 1, 3, none⟩ = some (.slice Ay y.args.length cy) ∧
                w'.cell? ⟨w.heap.size + 3, 3, none⟩ = some (.slice Av rs.length cv) ∧ w'.frozen? ⟨w.heap.size + 3, 3, none⟩ = false ∧ w'.cell? ⟨b, off + k * 4, none⟩ = some (.int .i64 x.kind) ∧ w'.cell? ⟨b, off + k * 4 + 1, none⟩ = some (.int .i64 x.n) ∧ w'.cell? ⟨b, off + k * 4 + 2, none⟩ = some (.string x.name) ∧ w'.cell? ⟨b, off + k * 4 + 3, none⟩ = some (.slice A' x.args.length c') ∧ w.heap.size + 3 < w'.heap.size ∧ b < w'.heap.size from fun w' hb => by
              have hB' : b < w.heap.size + 4 := by have : b < w.heap.size := hB; omega
              have hzz := hb.size
              exact ⟨(hb.cell (p := ⟨w.heap.size, 3, none⟩) (by simp)).trans p3, (hb.cell (p := ⟨w.heap.size + 1, 0, none⟩) (by simp)).trans g0, (hb.cell (p := ⟨w.heap.size + 1, 1, none⟩) (by simp)).trans g1, (hb.cell (p := ⟨w.heap.size + 1, 2, none⟩) (by simp)).trans g2, (hb.cell (p := ⟨w.heap.size + 1, 3, none⟩) (by simp)).trans g3,
                (hb.cell (p := ⟨w.heap.size + 3, 3, none⟩) (by simp)).trans c3, (hb.frozen (p := ⟨w.heap.size + 3, 3, none⟩) (by simp)).trans cf, (hb.cell (p := ⟨b, _, none⟩) hB').trans hx5.1, (hb.cell (p := ⟨b, _, none⟩) hB').trans hx5.2.1, (hb.cell (p := ⟨b, _, none⟩) hB').trans hx5.2.2.1, (hb.cell (p := ⟨b, _, none⟩) hB').trans hx5.2.2.2, by omega, by have : b < w.heap.size := hB; omega⟩)
            have HX := Lib.hid hx
            have HC := Lib.hid (hA'.later st.below)
            have hBz : b < w.heap.size := hB
            have hcc : cnt x < cnt t := Tm.lt_of_at hx
            clear hx hx4 hx5 hA' hB st g0 g1 g2 g3 c3 cf
            go_upto_region 7 with fail
            clear p3
            obtain ⟨D, hD⟩ : ∃ X, Hid (X = wr.drew) := ⟨_, rfl⟩
            have hd : Below wr.heap.size wr D := by rw [hD.out]; exact bDrewN (Below.refl _ _) 1
            have hS0 : Below (w.heap.size + 4) wr D := hd.mono (by omega)
            refine wp_region_N (fun w' => Below (w.heap.size + 4) wr w') (fun i => decide (i ≠ 13)) (by kernel_rfl) ?_
            rw [← hD.out]
            have HBD := Lib.hid hd
            clear hD hd
            refine wpAnyN_take (i := 0) (v := ?v1) rfl (by kernel_rfl) (by kernel_rfl) (by kernel_rfl) (by kernel_rfl) (fun _ _ _ h => h) (Or.inl ⟨by rfl, ?hy1⟩) (by assumption) ?_
            case hy1 => intro w hSw; (try dsimp only at hSw); go_simp; try with_reducible rfl
            simp only [Act.put, List.getElem_toArray, List.getElem_cons_zero, List.setIfInBounds_toArray, List.set_cons_zero, List.set_cons_succ]
            refine wpAnyN_take (i := 1) (v := ?v2) rfl (by kernel_rfl) (by kernel_rfl) (by kernel_rfl) (by kernel_rfl) (fun _ _ _ h => h) (Or.inl ⟨by rfl, ?hy2⟩) (by assumption) ?_
            case hy2 => intro w hSw; obtain ⟨p3, g0, g1, g2, g3, c3, cf, q0, q1, q2, q3, l3, lb⟩ := HFA.out _ hSw; go_simp; try with_reducible rfl
            simp only [Act.put, List.getElem_toArray, List.getElem_cons_zero, List.getElem_cons_succ, List.setIfInBounds_toArray, List.set_cons_zero, List.set_cons_succ]
            refine wpAnyN_take (i := 2) (v := ?v3) rfl (by kernel_rfl) (by kernel_rfl) (by kernel_rfl) (by kernel_rfl) (fun _ _ _ h => h) (Or.inl ⟨by rfl, ?hy3⟩) (by assumption) ?_
            case hy3 => intro w hSw; (try dsimp only at hSw); go_simp; try with_reducible rfl
            simp only [Act.put, List.getElem_toArray, List.getElem_cons_zero, List.getElem_cons_succ, List.setIfInBounds_toArray, List.set_cons_zero, List.set_cons_succ]
            refine wpAnyN_take (i := 3) (v := ?v4) rfl (by kernel_rfl) (by kernel_rfl) (by kernel_rfl) (by kernel_rfl) (fun _ _ _ h => h) (Or.inl ⟨by rfl, ?hy4⟩) (by assumption) ?_
            case hy4 => intro w hSw; obtain ⟨p3, g0, g1, g2, g3, c3, cf, q0, q1, q2, q3, l3, lb⟩ := HFA.out _ hSw; go_simp; try with_reducible rfl
            simp only [Act.put, List.getElem_toArray, List.getElem_cons_zero, List.getElem_cons_succ, List.setIfInBounds_toArray, List.set_cons_zero, List.set_cons_succ]
            refine wpAnyN_take (i := 4) (v := ?v5) rfl (by kernel_rfl) (by kernel_rfl) (by kernel_rfl) (by kernel_rfl) (fun _ _ _ h => h) (Or.inl ⟨by rfl, ?hy5⟩) (by assumption) ?_
            case hy5 => intro w hSw; (try dsimp only at hSw); go_simp; try with_reducible rfl
            simp only [Act.put, List.getElem_toArray, List.getElem_cons_zero, List.getElem_cons_succ, List.setIfInBounds_toArray, List.set_cons_zero, List.set_cons_succ]
            refine wpAnyN_take (i := 5) (v := ?v6) rfl (by kernel_rfl) (by kernel_rfl) (by kernel_rfl) (by kernel_rfl) (fun _ _ _ h => h) (Or.inl ⟨by rfl, ?hy6⟩) (by assumption) ?_
            case hy6 => intro w hSw; obtain ⟨p3, g0, g1, g2, g3, c3, cf, q0, q1, q2, q3, l3, lb⟩ := HFA.out _ hSw; go_simp; try with_reducible rfl
            simp only [Act.put, List.getElem_toArray, List.getElem_cons_zero, List.getElem_cons_succ, List.setIfInBounds_toArray, List.set_cons_zero, List.set_cons_succ]
            refine wpAnyN_take (i := 6) (v := ?v7) rfl (by kernel_rfl) (by kernel_rfl) (by kernel_rfl) (by kernel_rfl) (fun _ _ _ h => h) (Or.inl ⟨by rfl, ?hy7⟩) (by assumption) ?_
            case hy7 => intro w hSw; obtain ⟨p3, g0, g1, g2, g3, c3, cf, q0, q1, q2, q3, l3, lb⟩ := HFA.out _ hSw; go_simp; try with_reducible rfl
            simp only [Act.put, List.getElem_toArray, List.getElem_cons_zero, List.getElem_cons_succ, List.setIfInBounds_toArray, List.set_cons_zero, List.set_cons_succ]
            refine wpAnyN_take (i := 7) (v := ?v8) rfl (by kernel_rfl) (by kernel_rfl) (by kernel_rfl) (by kernel_rfl) (fun _ _ _ h => h) (Or.inl ⟨by rfl, ?hy8⟩) (by assumption) ?_
            case hy8 => intro w hSw; (try dsimp only at hSw); go_simp; try with_reducible rfl
            simp only [Act.put, List.getElem_toArray, List.getElem_cons_zero, List.getElem_cons_succ, List.setIfInBounds_toArray, List.set_cons_zero, List.set_cons_succ]
            refine wpAnyN_take (i := 8) (v := ?v9) rfl (by kernel_rfl) (by kernel_rfl) (by kernel_rfl) (by kernel_rfl) (fun _ _ _ h => h) (Or.inl ⟨by rfl, ?hy9⟩) (by assumption) ?_
            case hy9 => intro w hSw; obtain ⟨p3, g0, g1, g2, g3, c3, cf, q0, q1, q2, q3, l3, lb⟩ := HFA.out _ hSw; go_simp; try with_reducible rfl
            simp only [Act.put, List.getElem_toArray, List.getElem_cons_zero, List.getElem_cons_succ, List.setIfInBounds_toArray, List.set_cons_zero, List.set_cons_succ]
            refine wpAnyN_one (i := 9) (by kernel_rfl) rfl (fun K hK => ?_)
            simp only [List.getElem_toArray, List.getElem_cons_zero, List.getElem_cons_succ]
            go_simp
            refine (HIH.out x (by omega) (by omega) A' c' Ay cy D ((HC.out.keep (w' := D) (G := Old D.heap.size) (fun b hb => HBD.out.block b (by have : b < w.heap.size := hb; omega)) (fun b hb => by have : b < w.heap.size := hb; have := HBD.out.size; omega))) ((HAY.out.keep (w' := D) (G := Old D.heap.size) (fun b hb => (HBD.out.block b (by have : b < w.heap.size := hb; omega)).trans (HS.out.below.block b hb)) (fun b hb => by have : b < w.heap.size := hb; have := HBD.out.size; omega)))).mono ?_
            rintro e w4 ⟨⟨A4, c4, rfl, ha4⟩, hb4⟩
            have hbw4 : Below wr.heap.size wr w4 := bNext HBD.out hb4
            have hk4 : Below (w.heap.size + 4) wr w4 := hbw4.mono (by omega)
            have HA4 := Lib.hid (ha4.keep (w' := w4) (G := Btw wr.heap.size w4.heap.size) (fun _ _ => rfl) (fun b hb => ⟨by have := hb.1; have := HBD.out.size; omega, hb.2⟩))
            have HBW4 := Lib.hid hbw4
            have hz4 := hbw4.size
            refine hK _ _ (fun _ => hk4) ?_
            clear hb4 ha4 hS0 hbw4
            obtain ⟨z, hzz⟩ : ∃ z, Hid (z = putT vv y x) := ⟨_, rfl⟩
            rw [← hzz.out] at HA4 ⊢
            (try simp only [Act.put, List.setIfInBounds_toArray, List.set_cons_zero, List.set_cons_succ])
            refine wpAnyN_one (i := 10) (by kernel_rfl) rfl (fun K hK => ?_)
            simp only [List.getElem_toArray, List.getElem_cons_zero, List.getElem_cons_succ]
            go_simp
            have hk5 : ∀ o, Below (w.heap.size + 4) wr (w4.alloc o) := fun o => hk4.alloc (by omega) o
            refine hK _ _ (fun _ => hk5 _) ?_
            (try simp only [Act.put, List.setIfInBounds_toArray, List.set_cons_zero, List.set_cons_succ])
            refine wpAnyN_one (i := 11) (by kernel_rfl) rfl (fun K hK => ?_)
            simp only [List.getElem_toArray, List.getElem_cons_zero, List.getElem_cons_succ]
            rw [if_pos (by rfl)]
            refine wp_append_lies _ _ _ _ rfl (w.heap.size + 4) 24 i1 _ 4 56 Try.underlying22 hi1 hy0 hy1 hy2 rfl (by omega) _ rs.length (tmCs rs) rfl ((own_below HS.out.row.own HBW4.out).alloc _) ⟨w4.heap.size, 0, none⟩ 1 1 [.int .i64 z.kind, .int .i64 z.n, .string z.name, .slice A4 z.args.length c4] rfl rfl (World.news_of_block (cs := #[.int .i64 z.kind, .int .i64 z.n, .string z.name, .slice A4 z.args.length c4]) (t := 24) (fr := (0, 0)) (heap_alloc_new w4 _)) (by simp [Value.oneCell']) (by omega) (by unfold maxLen; omega) (by omega) (by simp; omega) (w4.heap.size + 1) (by simp) ?_
            intro gg cap w5 hown5 hgrow hat hlt5
            have hk6 : Below (w.heap.size + 4) wr w5 := (hk5 _).grown hgrow (by simp; omega) (fun k hk => (HS.out.row.own.lt k hk).1)
            refine hK _ _ (fun _ => hk6) ?_
            (try simp only [Act.put, List.setIfInBounds_toArray, List.set_cons_zero, List.set_cons_succ])
            refine wpAnyN_take (i := 12) (v := ?v10) rfl (by kernel_rfl) (by kernel_rfl) (by kernel_rfl) (by kernel_rfl) (fun _ _ _ h => h) (Or.inl ⟨by rfl, ?hy10⟩) (by assumption) ?_
            case hy10 => intro w hSw; (try dsimp only at hSw); go_simp; try with_reducible rfl
            simp only [Act.put, List.getElem_toArray, List.getElem_cons_zero, List.getElem_cons_succ, List.setIfInBounds_toArray, List.set_cons_zero, List.set_cons_succ]
            obtain ⟨-, -, -, -, -, c3, cf, -, -, -, -, l3, -⟩ := HFA.out _ hk6
            refine wpAnyN_one (i := 13) (by kernel_rfl) rfl (fun K hK => ?_)
            simp only [List.getElem_toArray, List.getElem_cons_zero, List.getElem_cons_succ]
            go_simp
            refine hK _ _ (fun h => absurd h (by decide)) ?_
            (try simp only [Act.put, List.setIfInBounds_toArray, List.set_cons_zero, List.set_cons_succ])
            refine wpAnyN_done (by kernel_rfl) ?_ _
            have HF := Lib.hid (HS.out.next (w2 := w4) HX.out HBW4.out (by rw [← hzz.out]; exact HA4.out) (by rw [← hzz.out]; exact hown5) (by exact hgrow) (by exact hat.elim (fun e => .inl e.symm) (fun e => .inr (by rw [World.size_alloc, e]; rfl))))
            clear hk4 hk5 hk6 hown5 hgrow hat c3 cf l3
            go_wp2_with fail
            exact ⟨⟨k + 1, _, _, by omega, by go_num, HF.out⟩, by simp [intOf]; omega⟩
          · have HR := Lib.hid st.res
            have HCB := Lib.hid st.cb
            have p3 := st.box.cell 3
            simp at p3
            clear st
            have r0 := HR.out.cell 0
            have f0 := HR.out.frozen 0
            have r1 := HR.out.cell 1
            have f1 := HR.out.frozen 1
            have r2 := HR.out.cell 2
            have f2 := HR.out.frozen 2
            have r3 := HR.out.cell 3
            have f3 := HR.out.frozen 3
            have rl := HR.out.lt
            simp at r0 r1 r2 r3
            have d0 := HCB.out.cell 0
            have d1 := HCB.out.cell 1
            have d2 := HCB.out.cell 2
            have d3 := HCB.out.cell 3
            simp at d0 d1 d2 d3
            go_wp2_with fail
            refine bodyPost_ret (v := .agg #[.int .i64 t.kind, .int .i64 t.n, .string t.name, .slice Av rs.length cv]) (by simp only [results, Try.results28]; go_simp) rfl ⟨?_, ?_⟩
            · have hm := HS.out.map
              rw [List.take_of_length_le (by omega)] at hm
              have hl : rs.length = t.args.length := by have := HS.out.len; omega
              rw [HE.out]
              refine ⟨Av, cv, by simp [Tm.v, Tm.kind, Tm.n, Tm.name, Tm.args, hl], ?_⟩
              have hr := HS.out.row.read (by omega)
              rw [hm] at hr
              refine hr.keep (fun b hb => ?_) (fun b hb => ⟨by have := hb.1; omega, by have := hb.2; simpa using this⟩)
              repeat rw [heap_setCell_other _ _ _ _ (by have := hb.1; simp; omega)]
            · repeat refine Below.setCell ?_ (by simp; omega) _
              exact HS.out.below
      · have q0 : (t.kind == 0) = false := by simpa using k0
        clear k0 hk
        go_wp2_with fail
        rw [HZW.out]
        clear HW
        have hI : CsP w t A c y Ay cy vv 0 (.slice none 0 0) [] (W.alloc (.cells #[.int .i64 t.kind, .int .i64 t.n, .string t.name, .slice none 0 0] 24)) := by
          refine ⟨HB0.out.alloc HB0.out.size _, HK0.out.alloc _, HK1.out.alloc _, HK2.out.alloc _, ?_, Mk.nil _ _, rfl, by simp⟩
          have h := Blk.new W 24 #[.int .i64 t.kind, .int .i64 t.n, .string t.name, .slice none 0 0]
          rwa [HZW.out] at h
        clear e0 e1 e2 e3 el b0 b1 b2 b3 bl
        go_loopw [8] (fun i wr => ∃ k v rs, k ≤ t.args.length ∧ i = .int .i64 ((k : Nat) : Int) ∧ CsP w t A c y Ay cy vv k v rs wr) (fun i _ => t.args.length - (intOf i).toNat)
        case atStart => exact ⟨0, _, _, by omega, rfl, hI⟩
        case round =>
          obtain ⟨k, v, rs, hk, rfl, st⟩ := hrel
          clear hI
          obtain ⟨Av, cv, rfl⟩ := st.row.form
          have HS := Lib.hid st
          have hz := st.below.size
          have zc := st.cb.lt
          have hrl : rs.length ≤ 4000 := by have := st.len; omega
          by_cases hlt : k < t.args.length
          · obtain ⟨b, off, x, A', c', rfl, hB, hx, hx4, hA'⟩ := HA.out.at hlt
            have p3 := st.box.cell 3
            have g0 := st.box2.cell 0
            have g1 := st.box2.cell 1
            have g2 := st.box2.cell 2
            have g3 := st.box2.cell 3
            have c3 := st.cb.cell 3
            have cf := st.cb.frozen 3
            simp at p3 g0 g1 g2 g3 c3
            have hx5 := hx4.below hB st.below
            have HFA := Lib.hid (show ∀ w', Below (w.heap.size + 4) wr w' → w'.cell? ⟨w.heap.size, 3, none⟩ = some (.slice (some ⟨b, off, none⟩) t.args.length c) ∧ w'.cell? ⟨w.heap.size + 1, 0, none⟩ = some (.int .i64 y.kind) ∧ w'.cell? ⟨w.heap.size + 1, 1, none⟩ = some (.int .i64 y.n) ∧ w'.cell? ⟨w.heap.size + 1, 2, none⟩ = some (.string y.name) ∧ w'.cell? ⟨w.heap.size + 1, 3, none⟩ = some (.slice Ay y.args.length cy) ∧
                w'.cell? ⟨w.heap.size + 3, 3, none⟩ = some (.slice Av rs.length cv) ∧ w'.frozen? ⟨w.heap.size + 3, 3, none⟩ = false ∧ w'.cell? ⟨b, off + k * 4, none⟩ = some (.int .i64 x.kind) ∧ w'.cell? ⟨b, off + k * 4 + 1, none⟩ = some (.int .i64 x.n) ∧ w'.cell? ⟨b, off + k * 4 + 2, none⟩ = some (.string x.name) ∧ w'.cell? ⟨b, off + k * 4 + 3, none⟩ = some (.slice A' x.args.length c') ∧ w.heap.size + 3 < w'.heap.size ∧ b < w'.heap.size from fun w' hb => by
              have hB' : b < w.heap.size + 4 := by have : b < w.heap.size := hB; omega
              have hzz := hb.size
              exact ⟨(hb.cell (p := ⟨w.heap.size, 3, none⟩) (by simp)).trans p3, (hb.cell (p := ⟨w.heap.size + 1, 0, none⟩) (by simp)).trans g0, (hb.cell (p := ⟨w.heap.size + 1, 1, none⟩) (by simp)).trans g1, (hb.cell (p := ⟨w.heap.size + 1, 2, none⟩) (by simp)).trans g2, (hb.cell (p := ⟨w.heap.size + 1, 3, none⟩) (by simp)).trans g3,
                (hb.cell (p := ⟨w.heap.size + 3, 3, none⟩) (by simp)).trans c3, (hb.frozen (p := ⟨w.heap.size + 3, 3, none⟩) (by simp)).trans cf, (hb.cell (p := ⟨b, _, none⟩) hB').trans hx5.1, (hb.cell (p := ⟨b, _, none⟩) hB').trans hx5.2.1, (hb.cell (p := ⟨b, _, none⟩) hB').trans hx5.2.2.1, (hb.cell (p := ⟨b, _, none⟩) hB').trans hx5.2.2.2, by omega, by have : b < w.heap.size := hB; omega⟩)
            have HX := Lib.hid hx
            have HC := Lib.hid (hA'.later st.below)
            have hBz : b < w.heap.size := hB
            have hcc : cnt x < cnt t := Tm.lt_of_at hx
            clear hx hx4 hx5 hA' hB st g0 g1 g2 g3 c3 cf
            go_upto_region 7 with fail
            clear p3
            obtain ⟨D, hD⟩ : ∃ X, Hid (X = wr.drew) := ⟨_, rfl⟩
            have hd : Below wr.heap.size wr D := by rw [hD.out]; exact bDrewN (Below.refl _ _) 1
            have hS0 : Below (w.heap.size + 4) wr D := hd.mono (by omega)
            refine wp_region_N (fun w' => Below (w.heap.size + 4) wr w') (fun i => decide (i ≠ 13)) (by kernel_rfl) ?_
            rw [← hD.out]
            have HBD := Lib.hid hd
            clear hD hd
            refine wpAnyN_take (i := 0) (v := ?v11) rfl (by kernel_rfl) (by kernel_rfl) (by kernel_rfl) (by kernel_rfl) (fun _ _ _ h => h) (Or.inl ⟨by rfl, ?hy11⟩) (by assumption) ?_
            case hy11 => intro w hSw; (try dsimp only at hSw); go_simp; try with_reducible rfl
            simp only [Act.put, List.getElem_toArray, List.getElem_cons_zero, List.setIfInBounds_toArray, List.set_cons_zero, List.set_cons_succ]
            refine wpAnyN_take (i := 1) (v := ?v12) rfl (by kernel_rfl) (by kernel_rfl) (by kernel_rfl) (by kernel_rfl) (fun _ _ _ h => h) (Or.inl ⟨by rfl, ?hy12⟩) (by assumption) ?_
            case hy12 => intro w hSw; obtain ⟨p3, g0, g1, g2, g3, c3, cf, q0, q1, q2, q3, l3, lb⟩ := HFA.out _ hSw; go_simp; try with_reducible rfl
            simp only [Act.put, List.getElem_toArray, List.getElem_cons_zero, List.getElem_cons_succ, List.setIfInBounds_toArray, List.set_cons_zero, List.set_cons_succ]
            refine wpAnyN_take (i := 2) (v := ?v13) rfl (by kernel_rfl) (by kernel_rfl) (by kernel_rfl) (by kernel_rfl) (fun _ _ _ h => h) (Or.inl ⟨by rfl, ?hy13⟩) (by assumption) ?_
            case hy13 => intro w hSw; (try dsimp only at hSw); go_simp; try with_reducible rfl
            simp only [Act.put, List.getElem_toArray, List.getElem_cons_zero, List.getElem_cons_succ, List.setIfInBounds_toArray, List.set_cons_zero, List.set_cons_succ]
            refine wpAnyN_take (i := 3) (v := ?v14) rfl (by kernel_rfl) (by kernel_rfl) (by kernel_rfl) (by kernel_rfl) (fun _ _ _ h => h) (Or.inl ⟨by rfl, ?hy14⟩) (by assumption) ?_
            case hy14 => intro w hSw; obtain ⟨p3, g0, g1, g2, g3, c3, cf, q0, q1, q2, q3, l3, lb⟩ := HFA.out _ hSw; go_simp; try with_reducible rfl
            simp only [Act.put, List.getElem_toArray, List.getElem_cons_zero, List.getElem_cons_succ, List.setIfInBounds_toArray, List.set_cons_zero, List.set_cons_succ]
            refine wpAnyN_take (i := 4) (v := ?v15) rfl (by kernel_rfl) (by kernel_rfl) (by kernel_rfl) (by kernel_rfl) (fun _ _ _ h => h) (Or.inl ⟨by rfl, ?hy15⟩) (by assumption) ?_
            case hy15 => intro w hSw; (try dsimp only at hSw); go_simp; try with_reducible rfl
            simp only [Act.put, List.getElem_toArray, List.getElem_cons_zero, List.getElem_cons_succ, List.setIfInBounds_toArray, List.set_cons_zero, List.set_cons_succ]
            refine wpAnyN_take (i := 5) (v := ?v16) rfl (by kernel_rfl) (by kernel_rfl) (by kernel_rfl) (by kernel_rfl) (fun _ _ _ h => h) (Or.inl ⟨by rfl, ?hy16⟩) (by assumption) ?_
            case hy16 => intro w hSw; obtain ⟨p3, g0, g1, g2, g3, c3, cf, q0, q1, q2, q3, l3, lb⟩ := HFA.out _ hSw; go_simp; try with_reducible rfl
            simp only [Act.put, List.getElem_toArray, List.getElem_cons_zero, List.getElem_cons_succ, List.setIfInBounds_toArray, List.set_cons_zero, List.set_cons_succ]
            refine wpAnyN_take (i := 6) (v := ?v17) rfl (by kernel_rfl) (by kernel_rfl) (by kernel_rfl) (by kernel_rfl) (fun _ _ _ h => h) (Or.inl ⟨by rfl, ?hy17⟩) (by assumption) ?_
            case hy17 => intro w hSw; obtain ⟨p3, g0, g1, g2, g3, c3, cf, q0, q1, q2, q3, l3, lb⟩ := HFA.out _ hSw; go_simp; try with_reducible rfl
            simp only [Act.put, List.getElem_toArray, List.getElem_cons_zero, List.getElem_cons_succ, List.setIfInBounds_toArray, List.set_cons_zero, List.set_cons_succ]
            refine wpAnyN_take (i := 7) (v := ?v18) rfl (by kernel_rfl) (by kernel_rfl) (by kernel_rfl) (by kernel_rfl) (fun _ _ _ h => h) (Or.inl ⟨by rfl, ?hy18⟩) (by assumption) ?_
            case hy18 => intro w hSw; (try dsimp only at hSw); go_simp; try with_reducible rfl
            simp only [Act.put, List.getElem_toArray, List.getElem_cons_zero, List.getElem_cons_succ, List.setIfInBounds_toArray, List.set_cons_zero, List.set_cons_succ]
            refine wpAnyN_take (i := 8) (v := ?v19) rfl (by kernel_rfl) (by kernel_rfl) (by kernel_rfl) (by kernel_rfl) (fun _ _ _ h => h) (Or.inl ⟨by rfl, ?hy19⟩) (by assumption) ?_
            case hy19 => intro w hSw; obtain ⟨p3, g0, g1, g2, g3, c3, cf, q0, q1, q2, q3, l3, lb⟩ := HFA.out _ hSw; go_simp; try with_reducible rfl
            simp only [Act.put, List.getElem_toArray, List.getElem_cons_zero, List.getElem_cons_succ, List.setIfInBounds_toArray, List.set_cons_zero, List.set_cons_succ]
            refine wpAnyN_one (i := 9) (by kernel_rfl) rfl (fun K hK => ?_)
            simp only [List.getElem_toArray, List.getElem_cons_zero, List.getElem_cons_succ]
            go_simp
            refine (HIH.out x (by omega) (by omega) A' c' Ay cy D ((HC.out.keep (w' := D) (G := Old D.heap.size) (fun b hb => HBD.out.block b (by have : b < w.heap.size := hb; omega)) (fun b hb => by have : b < w.heap.size := hb; have := HBD.out.size; omega))) ((HAY.out.keep (w' := D) (G := Old D.heap.size) (fun b hb => (HBD.out.block b (by have : b < w.heap.size := hb; omega)).trans (HS.out.below.block b hb)) (fun b hb => by have : b < w.heap.size := hb; have := HBD.out.size; omega)))).mono ?_
            rintro e w4 ⟨⟨A4, c4, rfl, ha4⟩, hb4⟩
            have hbw4 : Below wr.heap.size wr w4 := bNext HBD.out hb4
            have hk4 : Below (w.heap.size + 4) wr w4 := hbw4.mono (by omega)
            have HA4 := Lib.hid (ha4.keep (w' := w4) (G := Btw wr.heap.size w4.heap.size) (fun _ _ => rfl) (fun b hb => ⟨by have := hb.1; have := HBD.out.size; omega, hb.2⟩))
            have HBW4 := Lib.hid hbw4
            have hz4 := hbw4.size
            refine hK _ _ (fun _ => hk4) ?_
            clear hb4 ha4 hS0 hbw4
            obtain ⟨z, hzz⟩ : ∃ z, Hid (z = putT vv y x) := ⟨_, rfl⟩
            rw [← hzz.out] at HA4 ⊢
            (try simp only [Act.put, List.setIfInBounds_toArray, List.set_cons_zero, List.set_cons_succ])
            refine wpAnyN_one (i := 10) (by kernel_rfl) rfl (fun K hK => ?_)
            simp only [List.getElem_toArray, List.getElem_cons_zero, List.getElem_cons_succ]
            go_simp
            have hk5 : ∀ o, Below (w.heap.size + 4) wr (w4.alloc o) := fun o => hk4.alloc (by omega) o
            refine hK _ _ (fun _ => hk5 _) ?_
            (try simp only [Act.put, List.setIfInBounds_toArray, List.set_cons_zero, List.set_cons_succ])
            refine wpAnyN_one (i := 11) (by kernel_rfl) rfl (fun K hK => ?_)
            simp only [List.getElem_toArray, List.getElem_cons_zero, List.getElem_cons_succ]
            rw [if_pos (by rfl)]
            refine wp_append_lies _ _ _ _ rfl (w.heap.size + 4) 24 i1 _ 4 56 Try.underlying22 hi1 hy0 hy1 hy2 rfl (by omega) _ rs.length (tmCs rs) rfl ((own_below HS.out.row.own HBW4.out).alloc _) ⟨w4.heap.size, 0, none⟩ 1 1 [.int .i64 z.kind, .int .i64 z.n, .string z.name, .slice A4 z.args.length c4] rfl rfl (World.news_of_block (cs := #[.int .i64 z.kind, .int .i64 z.n, .string z.name, .slice A4 z.args.length c4]) (t := 24) (fr := (0, 0)) (heap_alloc_new w4 _)) (by simp [Value.oneCell']) (by omega) (by unfold maxLen; omega) (by omega) (by simp; omega) (w4.heap.size + 1) (by simp) ?_
            intro gg cap w5 hown5 hgrow hat hlt5
            have hk6 : Below (w.heap.size + 4) wr w5 := (hk5 _).grown hgrow (by simp; omega) (fun k hk => (HS.out.row.own.lt k hk).1)
            refine hK _ _ (fun _ => hk6) ?_
            (try simp only [Act.put, List.setIfInBounds_toArray, List.set_cons_zero, List.set_cons_succ])
            refine wpAnyN_take (i := 12) (v := ?v20) rfl (by kernel_rfl) (by kernel_rfl) (by kernel_rfl) (by kernel_rfl) (fun _ _ _ h => h) (Or.inl ⟨by rfl, ?hy20⟩) (by assumption) ?_
            case hy20 => intro w hSw; (try dsimp only at hSw); go_simp; try with_reducible rfl
            simp only [Act.put, List.getElem_toArray, List.getElem_cons_zero, List.getElem_cons_succ, List.setIfInBounds_toArray, List.set_cons_zero, List.set_cons_succ]
            obtain ⟨-, -, -, -, -, c3, cf, -, -, -, -, l3, -⟩ := HFA.out _ hk6
            refine wpAnyN_one (i := 13) (by kernel_rfl) rfl (fun K hK => ?_)
            simp only [List.getElem_toArray, List.getElem_cons_zero, List.getElem_cons_succ]
            go_simp
            refine hK _ _ (fun h => absurd h (by decide)) ?_
            (try simp only [Act.put, List.setIfInBounds_toArray, List.set_cons_zero, List.set_cons_succ])
            refine wpAnyN_done (by kernel_rfl) ?_ _
            have HF := Lib.hid (HS.out.next (w2 := w4) HX.out HBW4.out (by rw [← hzz.out]; exact HA4.out) (by rw [← hzz.out]; exact hown5) (by exact hgrow) (by exact hat.elim (fun e => .inl e.symm) (fun e => .inr (by rw [World.size_alloc, e]; rfl))))
            clear hk4 hk5 hk6 hown5 hgrow hat c3 cf l3
            go_wp2_with fail
            exact ⟨⟨k + 1, _, _, by omega, by go_num, HF.out⟩, by simp [intOf]; omega⟩
          · have HR := Lib.hid st.res
            have HCB := Lib.hid st.cb
            have p3 := st.box.cell 3
            simp at p3
            clear st
            have r0 := HR.out.cell 0
            have f0 := HR.out.frozen 0
            have r1 := HR.out.cell 1
            have f1 := HR.out.frozen 1
            have r2 := HR.out.cell 2
            have f2 := HR.out.frozen 2
            have r3 := HR.out.cell 3
            have f3 := HR.out.frozen 3
            have rl := HR.out.lt
            simp at r0 r1 r2 r3
            have d0 := HCB.out.cell 0
            have d1 := HCB.out.cell 1
            have d2 := HCB.out.cell 2
            have d3 := HCB.out.cell 3
            simp at d0 d1 d2 d3
            go_wp2_with fail
            refine bodyPost_ret (v := .agg #[.int .i64 t.kind, .int .i64 t.n, .string t.name, .slice Av rs.length cv]) (by simp only [results, Try.results28]; go_simp) rfl ⟨?_, ?_⟩
            · have hm := HS.out.map
              rw [List.take_of_length_le (by omega)] at hm
              have hl : rs.length = t.args.length := by have := HS.out.len; omega
              rw [HE.out]
              refine ⟨Av, cv, by simp [Tm.v, Tm.kind, Tm.n, Tm.name, Tm.args, hl], ?_⟩
              have hr := HS.out.row.read (by omega)
              rw [hm] at hr
              refine hr.keep (fun b hb => ?_) (fun b hb => ⟨by have := hb.1; omega, by have := hb.2; simpa using this⟩)
              repeat rw [heap_setCell_other _ _ _ _ (by have := hb.1; simp; omega)]
            · repeat refine Below.setCell ?_ (by simp; omega) _
              exact HS.out.below
end Go.Proofs.Ytcagaaacfcpoeaa
