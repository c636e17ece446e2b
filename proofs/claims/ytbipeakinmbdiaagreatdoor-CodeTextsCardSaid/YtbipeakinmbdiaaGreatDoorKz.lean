/-
  Memory: a row of bytes that came out of a string, and appends to it. Such a row bears a mark behind its last cell: no cell of it is frozen. Walk: Text (the reference).
-/
import Derived.Test.YtbipeakinmbdiaaGreatDoorKx
import Derived.Lib.ConvBytes
import Derived.Lib.AppendStr
import Derived.Test.YtbipeakinmbdiaaGreatDoorKs
import Derived.Test.YtbipeakinmbdiaaGreatDoorKy
namespace Go.Proofs.YtbipeakinmbdiaaGreatDoor
section
open Go.RowKit

/-- a row of bytes, none of them frozen, whatever mark stands behind it -/
def OwnM (w : World) (base : Nat) (v : Value) (l : List UInt8) : Prop :=
  ∃ g cap cur fz, v = .slice (some ⟨g, 0, none⟩) l.length cap ∧ base ≤ g ∧ w.heap[g]? = some (.cells cur 5 fz) ∧ (cur.size ≤ fz.1 ∨ fz.2 = 0) ∧ l.length ≤ cap ∧ cap ≤ maxLen ∧ cur.size = cap ∧ cur.toList.take l.length = bCs l
theorem OwnM.lt {w : World} {base : Nat} {v : Value} {l : List UInt8} (h : OwnM w base v l) : ∀ k, v.ownBlock = some k → base ≤ k ∧ k < w.heap.size := by
  intro k hk
  obtain ⟨g, cap, cur, fz, rfl, hb, hg, _⟩ := h
  have e : some g = some k := hk
  injection e with e
  subst e
  exact ⟨hb, (Array.getElem?_eq_some_iff.1 hg).1⟩
theorem OwnM.next {w w' : World} {base : Nat} {v : Value} {l : List UInt8} (h : OwnM w base v l) (hb : Below w.heap.size w w') : OwnM w' base v l := by
  obtain ⟨g, cap, cur, fz, e, h1, hg, rest⟩ := h
  exact ⟨g, cap, cur, fz, e, h1, (hb.block g (Array.getElem?_eq_some_iff.1 hg).1).trans hg, rest⟩
theorem stores_free (P : Program) (g o : Nat) (t : TypeId) (fz : Nat × Nat) : ∀ (vs : List Value) (i : Nat) (cur : Array Value) (w : World), w.heap[g]? = some (.cells cur t fz) → (cur.size ≤ fz.1 ∨ fz.2 = 0) → o + i + vs.length ≤ cur.size → (∀ v ∈ vs, v.oneCell' = true) →
    (storeCells ⟨g, o, none⟩ vs i).run P w = .ok () (w.setRow g (cur.toList.take (o + i) ++ vs ++ cur.toList.drop (o + i + vs.length)).toArray)
  | [], i, cur, w, hg, _, _, _ => by
    simp only [storeCells, List.append_nil, List.length_nil, Nat.add_zero, List.take_append_drop, Array.toArray_toList]
    rw [setRow_self w g cur t fz hg]
    rfl
  | v :: rest, i, cur, w, hg, hfz, hl, h1 => by
    have hi : o + i < cur.size := by simp at hl; omega
    have hadd : (⟨g, o, none⟩ : Addr).add i = ⟨g, o + i, none⟩ := by unfold Addr.add; split <;> simp_all
    have hcell : w.cell? ⟨g, o + i, none⟩ = some cur[o + i] := by simp [World.cell?, hg, hi]
    have hfro : w.frozen? ⟨g, o + i, none⟩ = false := by
      obtain ⟨lo, hi'⟩ := fz
      simp only [World.frozen?, hg, Bool.and_eq_false_iff, decide_eq_false_iff_not]
      simp only at hfz
      omega
    have hst : (store ((⟨g, o, none⟩ : Addr).add i) v).run P w = .ok () (w.setRow g (cur.setIfInBounds (o + i) v)) := by
      rw [hadd, run_store P w _ v _ (h1 v (by simp)), hcell]
      simp [hfro, setCell_eq_setRow w g (o + i) cur t fz v hg]
    have ih := stores_free P g o t fz rest (i + 1) (cur.setIfInBounds (o + i) v) (w.setRow g (cur.setIfInBounds (o + i) v)) (setRow_heap w g cur _ t _ hg) (by simpa using hfz) (by simp at hl ⊢; omega) (fun x hx => h1 x (by simp [hx]))
    simp only [storeCells, Sem.run_bind, hst, Result.andThen_ok, ih, setRow_setRow]
    congr 3
    have e := list_seg_step cur.toList (o + i) v rest (by simp at hl ⊢; omega)
    simpa [Array.toList_setIfInBounds, Nat.add_assoc] using e
theorem bCs_one (l : List UInt8) : ∀ u ∈ bCs l, u.oneCell' = true := by
  intro u hu
  simp only [bCs, List.mem_map] at hu
  obtain ⟨b, _, rfl⟩ := hu
  rfl
/-- what an append to such a row leaves -/
theorem own_room {w : World} {base g cap : Nat} {cur : Array Value} {fz : Nat × Nat} {l m : List UInt8} (hb : base ≤ g) (hg : w.heap[g]? = some (.cells cur 5 fz)) (hfz : cur.size ≤ fz.1 ∨ fz.2 = 0) (hcm : cap ≤ maxLen) (hcs : cur.size = cap) (htake : cur.toList.take l.length = bCs l) (hroom : l.length + m.length ≤ cap) :
    OwnM (w.setRow g (cur.toList.take l.length ++ bCs m ++ cur.toList.drop (l.length + m.length)).toArray) base (.slice (some ⟨g, 0, none⟩) (l.length + m.length) cap) (l ++ m) := by
  have hsz : (cur.toList.take l.length ++ bCs m ++ cur.toList.drop (l.length + m.length)).length = cap := by
    have h1 : (bCs m).length = m.length := bCs_len m
    simp only [List.length_append, List.length_take, List.length_drop, Array.length_toList, h1]
    omega
  refine ⟨g, cap, _, fz, by rw [List.length_append], hb, setRow_heap w g cur _ 5 _ hg, ?_, by rw [List.length_append]; exact hroom, hcm, by simpa using hsz, ?_⟩
  · rw [List.size_toArray, hsz, ← hcs]; exact hfz
  · rw [htake, List.length_append]
    have e : (bCs l ++ bCs m).length = l.length + m.length := by rw [List.length_append, bCs_len, bCs_len]
    rw [← e]
    show List.take _ (bCs l ++ bCs m ++ _) = _
    rw [List.take_left, ← bCs_app]
theorem own_grow {w : World} {base : Nat} {l m : List UInt8} {old : Nat} (hbase : base ≤ w.heap.size) (h63 : l.length + m.length ≤ maxLen) :
    OwnM (w.drew.alloc (.cells ((bCs l).toArray ++ (bCs m).toArray ++ Builtin.zeroCells (Value.int .u8 0).cells (grownCap w (l.length + m.length) old 5 - (l.length + m.length))) 5)) base
      (.slice (some ⟨w.heap.size, 0, none⟩) (l.length + m.length) (grownCap w (l.length + m.length) old 5)) (l ++ m) := by
  have hge := grownCap_ge w (l.length + m.length) old 5
  have hcm := grownCap_le_maxLen w (l.length + m.length) old 5 h63
  refine ⟨w.heap.size, _, _, (0, 0), by rw [List.length_append], hbase, heap_alloc_new w.drew _, .inr rfl, by rw [List.length_append]; exact hge, hcm, ?_, ?_⟩
  · have hz1 : (Value.int IntKind.u8 0).cells.size = 1 := rfl
    simp only [Array.size_append, List.size_toArray, size_zeroCells, hz1, bCs_len]
    omega
  · simp only [Array.toList_append, List.append_assoc]
    rw [← List.append_assoc, List.length_append]
    have e : (bCs l ++ bCs m).length = l.length + m.length := by rw [List.length_append, bCs_len, bCs_len]
    rw [← e, List.take_left, ← bCs_app]
theorem grown_row (w : World) (g : Nat) (cs : Array Value) : w.grownBy (w.setRow g cs) (some g) := ⟨rfl, rfl, rfl, by simp, fun k _ hk => setRow_other w g k _ (fun e => hk (by rw [e]))⟩
theorem grown_new (w : World) (o : Obj) (row : Option Nat) : w.grownBy (w.drew.alloc o) row := ⟨rfl, rfl, rfl, by simp, fun k hk _ => heap_alloc_old w.drew _ hk⟩
theorem own_cells {w : World} {g : Nat} {cur : Array Value} {fz : Nat × Nat} {l : List UInt8} (hg : w.heap[g]? = some (.cells cur 5 fz)) (htake : cur.toList.take l.length = bCs l) : ∀ j u, (bCs l)[j]? = some u → w.cell? ((⟨g, 0, none⟩ : Addr).add j) = some u := by
  intro j u hu
  have hadd : (⟨g, 0, none⟩ : Addr).add j = ⟨g, j, none⟩ := by unfold Addr.add; split <;> simp_all
  rw [hadd, cell_of_row w g j cur 5 fz hg]
  rw [← htake, List.getElem?_take] at hu
  split at hu
  · simpa using hu
  · cases hu
section
variable {i : TypeInfo}
theorem run_app_str (w : World) (base : Nat) (ty : TypeId) (hi : Tryz.prog.info? 5 = some i) (hz : i.zero = some (.int .u8 0)) (hsize : i.size = 1) (hby : i.bytes = 1) {v : Value} {l m : List UInt8} (h : OwnM w base v l)
    (hlen : l.length + m.length ≤ 1000000000) (hbase : base ≤ w.heap.size) :
    ∃ v' w', (Builtin.append_ #[45, 9] ty #[v, .string (S m)]).run Tryz.prog w = .ok v' w' ∧ OwnM w' base v' (l ++ m) ∧ w.grownBy w' v.ownBlock := by
  obtain ⟨g, cap, cur, fz, rfl, hb, hg, hfz, hlc, hcm, hcs, htake⟩ := h
  have ht : Tryz.prog.underlying 45 = some (.slice 5) := by kernel_rfl
  have hu : Tryz.prog.underlying 9 = some .string := by kernel_rfl
  have hm : Lib.strCells (S m) = bCs m := by unfold Lib.strCells bCs; rw [S_list]
  have hz9 : (S m).size = m.length := S_size m
  have h63 : l.length + m.length ≤ maxLen := by unfold maxLen; omega
  by_cases hroom : l.length + m.length ≤ cap
  · have hf := Lib.run_firstCells_string (P := Tryz.prog) w 1 (S m)
    have hst := stores_free Tryz.prog g l.length 5 fz (bCs m) 0 cur w hg hfz (by rw [bCs_len]; omega) (bCs_one m)
    simp only [Nat.add_zero, bCs_len] at hst
    refine ⟨.slice (some ⟨g, 0, none⟩) (l.length + m.length) cap, _, ?_, own_room hb hg hfz hcm hcs htake hroom, grown_row w g _⟩
    rw [hz9, hm] at hf
    simp [Builtin.append_, run_underlying ht, run_underlying hu, sizeOf, typeInfo, hi, hsize, Builtin.lenOf, hz9, hroom, hf, Addr.add_lit, hst]
  · have hr := Lib.run_append_grow_string (P := Tryz.prog) w 45 9 ty 5 i (.int .u8 0) ht hu hi hz ⟨g, 0, none⟩ l.length cap (bCs l) (by rw [hsize, bCs_len]; omega) (own_cells hg htake) (S m) (by omega) (by omega) (by rw [hby, hz9]; exact growslice_fits (by omega) (by omega))
    rw [hz9, hm] at hr
    exact ⟨_, _, hr, own_grow hbase h63, grown_new w _ _⟩
theorem run_app_one (w : World) (base : Nat) (ty : TypeId) (hi : Tryz.prog.info? 5 = some i) (hz : i.zero = some (.int .u8 0)) (hsize : i.size = 1) (hby : i.bytes = 1) {v : Value} {l m : List UInt8} (h : OwnM w base v l)
    (hlen : l.length + m.length ≤ 1000000000) (hbase : base ≤ w.heap.size) (a : Addr) (c : Nat) (hnews : ∀ j u, (bCs m)[j]? = some u → w.cell? (a.add j) = some u) :
    ∃ v' w', (Builtin.append_ #[45, 45] ty #[v, .slice (some a) m.length c]).run Tryz.prog w = .ok v' w' ∧ OwnM w' base v' (l ++ m) ∧ w.grownBy w' v.ownBlock := by
  obtain ⟨g, cap, cur, fz, rfl, hb, hg, hfz, hlc, hcm, hcs, htake⟩ := h
  have ht : Tryz.prog.underlying 45 = some (.slice 5) := by kernel_rfl
  have h63 : l.length + m.length ≤ maxLen := by unfold maxLen; omega
  by_cases hroom : l.length + m.length ≤ cap
  · have hf := run_firstCells_some (P := Tryz.prog) w i.size m.length a m.length c (bCs m) (by rw [hsize, bCs_len]; omega) hnews
    have hst := stores_free Tryz.prog g l.length 5 fz (bCs m) 0 cur w hg hfz (by rw [bCs_len]; omega) (bCs_one m)
    simp only [Nat.add_zero, bCs_len] at hst
    refine ⟨.slice (some ⟨g, 0, none⟩) (l.length + m.length) cap, _, ?_, own_room hb hg hfz hcm hcs htake hroom, grown_row w g _⟩
    rw [hsize] at hf
    simp [Builtin.append_, run_underlying ht, sizeOf, typeInfo, hi, hsize, Builtin.lenOf, hroom, hf, Addr.add_lit, hst]
  · have hr := run_append_grow (P := Tryz.prog) w 45 ty 5 i (.int .u8 0) ht hi hz ⟨g, 0, none⟩ l.length cap (bCs l) (by rw [hsize, bCs_len]; omega) (own_cells hg htake) a m.length c (bCs m) (by rw [hsize, bCs_len]; omega) hnews (by omega) (by omega) (by rw [hby]; exact growslice_fits (by omega) (by omega))
    exact ⟨_, _, hr, own_grow hbase h63, grown_new w _ _⟩
end
theorem OwnM.back {w : World} {base : Nat} {v : Value} {l : List UInt8} (h : OwnM w base v l) : (convert 45 9 v).run Tryz.prog w = .ok (.string (S l)) w := by
  obtain ⟨g, cap, cur, fz, rfl, hb, hg, hfz, hlc, hcm, hcs, htake⟩ := h
  exact run_convert_bytes_back w 45 9 5 ⟨g, 0, none⟩ cap l (by kernel_rfl) (by kernel_rfl) (by kernel_rfl) (fun j hj => own_cells hg htake j _ (by unfold bCs; simp [hj]))
theorem conv_own (w : World) (l : List UInt8) (base : Nat) (hb : base ≤ w.heap.size) (hl : l.length ≤ 1000000000) : ∃ v w', (convert 9 45 (.string (S l))).run Tryz.prog w = .ok v w' ∧ OwnM w' base v l ∧ Below w.heap.size w w' := by
  have hz : (S l).size = l.length := S_size l
  have hge := grownCap_ge w l.length 0 5
  have hcm := grownCap_le_maxLen w l.length 0 5 (by unfold maxLen; omega)
  refine ⟨_, _, Lib.run_convert_string_bytes (P := Tryz.prog) (u := .string) w 9 45 5 (S l) (by kernel_rfl) (by kernel_rfl) (by kernel_rfl), ?_, ⟨rfl, rfl, rfl, by rw [Lib.bytesWorld_size]; omega, fun j hj => Lib.bytesWorld_at_old w 5 (S l) j hj⟩⟩
  rw [hz]
  have hsz : (Lib.bytesCells w 5 (S l)).size = grownCap w l.length 0 5 := by
    unfold Lib.bytesCells
    rw [Array.size_append, Array.size_map, Array.size_replicate, hz]
    have : (S l).data.size = l.length := by simp [S]
    omega
  refine ⟨w.heap.size, _, _, _, rfl, hb, Lib.bytesWorld_at_new w 5 (S l), .inl (Nat.le_refl _), hge, hcm, hsz, ?_⟩
  unfold Lib.bytesCells
  rw [Array.toList_append, List.take_append_of_le_length (by simp [S]), Array.toList_map, S_list]
  rw [List.take_of_length_le (by simp)]
  rfl
end
section
open Go.RowKit

section
variable {w : World} {ops : Array Oper} {rest : List Oper} {o : Oper} {a : Act} {Q : Exit → Act → World → Prop} {i : TypeInfo} {base : Nat} {v : Value} {l m : List UInt8}
theorem wpList_app_str (hgd : o.guard = none) (sl x : Operand) (ho : o.op = .call { callee := .builtin .append, args := #[sl, x], argTypes := #[45, 9] }) (hi : Tryz.prog.info? 5 = some i) (hz : i.zero = some (.int .u8 0)) (hsize : i.size = 1) (hby : i.bytes = 1)
    (hs : a.eval sl = v) (h : OwnM w base v l) (hx : a.eval x = .string (S m)) (hlen : l.length + m.length ≤ 1000000000) (hbase : base ≤ w.heap.size)
    (hk : ∀ v' w', OwnM w' base v' (l ++ m) → w.grownBy w' v.ownBlock → wpList Tryz.prog ops Q rest (a.put o.dst v') w') : wpList Tryz.prog ops Q (o :: rest) a w := by
  refine wpList_plain hgd fun K hK => ?_
  obtain ⟨v', w', hr, h2, h3⟩ := run_app_str w base o.type hi hz hsize hby h hlen hbase
  unfold Oper.wp execOp
  simp only [ho, resolve, invoke, builtin, Sem.run_bind, Sem.run_pure, Result.andThen_ok, List.map_toArray, List.map_cons, List.map_nil, hs, hx, hr]
  exact hK _ _ (hk v' w' h2 h3)
theorem wpList_app_one (hgd : o.guard = none) (sl x : Operand) (ho : o.op = .call { callee := .builtin .append, args := #[sl, x], argTypes := #[45, 45] }) (hi : Tryz.prog.info? 5 = some i) (hz : i.zero = some (.int .u8 0)) (hsize : i.size = 1) (hby : i.bytes = 1)
    (hs : a.eval sl = v) (h : OwnM w base v l) (ad : Addr) (c : Nat) (hx : a.eval x = .slice (some ad) m.length c) (hnews : ∀ j u, (bCs m)[j]? = some u → w.cell? (ad.add j) = some u) (hlen : l.length + m.length ≤ 1000000000) (hbase : base ≤ w.heap.size)
    (hk : ∀ v' w', OwnM w' base v' (l ++ m) → w.grownBy w' v.ownBlock → wpList Tryz.prog ops Q rest (a.put o.dst v') w') : wpList Tryz.prog ops Q (o :: rest) a w := by
  refine wpList_plain hgd fun K hK => ?_
  obtain ⟨v', w', hr, h2, h3⟩ := run_app_one w base o.type hi hz hsize hby h hlen hbase ad c hnews
  unfold Oper.wp execOp
  simp only [ho, resolve, invoke, builtin, Sem.run_bind, Sem.run_pure, Result.andThen_ok, List.map_toArray, List.map_cons, List.map_nil, hs, hx, hr]
  exact hK _ _ (hk v' w' h2 h3)
theorem OwnM.form (h : OwnM w base v l) : ∃ g cap, v = .slice (some ⟨g, 0, none⟩) l.length cap := by
  obtain ⟨g, cap, cur, fz, e, _⟩ := h
  exact ⟨g, cap, e⟩
end
theorem below_row {base : Nat} {w1 w w' : World} {v : Value} {l : List UInt8} (h : Below base w1 w) (hw : base ≤ w1.heap.size) (ho : OwnM w base v l) (hg : w.grownBy w' v.ownBlock) : Below base w1 w' :=
  h.grown hg (Nat.le_trans hw h.size) (fun g e => (ho.lt g e).1)
set_option maxRecDepth 100000 in
set_option maxHeartbeats 4000000 in
theorem Text_any (b : Bk) (A : Option Addr) (c : Nat) (w : World) (ha : InsAt w w.heap.size A b.code.length b.code) (hr : RgB b) :
    Calls Tryz.prog 25 #[b.v A c] w fun e w' => e = .returned (.tuple #[.string (S (textV b).1), .int .i64 (textV b).2]) ∧ Below w.heap.size w w' := by
  obtain ⟨i5, hi, hiz, hz1, hby⟩ := info_parts info5
  have HSI := Lib.hid hz1
  have HBY := Lib.hid hby
  have HA := Lib.hid ha
  have HR := Lib.hid hr
  have hnl := ha.1.2
  clear ha hr hz1 hby
  obtain ⟨W, HW⟩ : ∃ X, Hid (X = w.alloc (.cells #[.int .i64 b.id, .string b.pn, .int .i64 b.par, .int .i64 b.paux, .int .i64 b.kk, .int .i64 b.kn, .string b.knm, .int .i64 b.kar, .slice A b.code.length c] 28)) := ⟨_, rfl⟩
  obtain ⟨q, hq⟩ : ∃ q, Hid (q = w.heap.size) := ⟨_, rfl⟩
  have HB := Lib.hid (show Below w.heap.size w W by rw [HW.out]; exact bAlloc _ _)
  have HK := Lib.hid (show Blk W q 28 #[.int .i64 b.id, .string b.pn, .int .i64 b.par, .int .i64 b.paux, .int .i64 b.kk, .int .i64 b.kn, .string b.knm, .int .i64 b.kar, .slice A b.code.length c] by rw [HW.out, hq.out]; exact Blk.new _ _ _)
  have hqw : w.heap.size ≤ q := by rw [hq.out]; exact Nat.le_refl _
  go_enter Tryz.func25, Tryz.ntmps25
  go_upto_region 1 with fail
  rw [← HW.out, ← hq.out]
  clear HW hq
  have HI0 := Lib.hid (HA.out.below HB.out)
  have c0 := HK.out.cell 0
  have c1 := HK.out.cell 1
  have c2 := HK.out.cell 2
  have c3 := HK.out.cell 3
  have c4 := HK.out.cell 4
  have c5 := HK.out.cell 5
  have c6 := HK.out.cell 6
  have c7 := HK.out.cell 7
  have c8 := HK.out.cell 8
  have cl := HK.out.lt
  simp at c0 c1 c2 c3 c4 c5 c6 c7 c8
  go_wp2_with fail
  refine (Valid_any b A c W (HI0.out.more HB.out.size)).mono ?_
  rintro e w1 ⟨rfl, hb⟩
  have HB1 := Lib.hid (bNext HB.out hb)
  have HK1 := Lib.hid (HK.out.below hb HK.out.lt)
  clear hb c0 c1 c2 c3 c4 c5 c6 c7 c8 cl HB HK HI0
  cases hv : vaP b
  · have HT := Lib.hid (textV_bad hv)
    clear hv
    go_wp2_with fail
    go_ret2
    rw [HT.out]
    exact ⟨rfl, HB1.out⟩
  · have HV := Lib.hid (va_head hv)
    have HFO := Lib.hid (va_fo hv)
    have HT := Lib.hid (textV_ok hv)
    have HD := Lib.hid (hd_facts HV.out.1)
    have HPX := Lib.hid (show 0 ≤ b.paux by
      have h := HV.out.1
      unfold hdP at h
      simp only [Bool.and_eq_true] at h
      exact (pd_facts h.2.1).2.2.1)
    clear hv
    go_upto_region 3 with fail
    obtain ⟨bs, hbs⟩ : ∃ q, Hid (q = w1.heap.size) := ⟨_, rfl⟩
    have hqb : q < bs := by rw [hbs.out]; exact HK1.out.lt
    have hwb : w.heap.size ≤ bs := by rw [hbs.out]; exact HB1.out.size
    have hb1 : bs ≤ w1.heap.size := by rw [hbs.out]; exact Nat.le_refl _
    obtain ⟨D, hD⟩ : ∃ X, Hid (X = w1.drew) := ⟨_, rfl⟩
    have hd : Below w1.heap.size w1 D := by rw [hD.out]; exact bDrewN (Below.refl _ _) 1
    refine wp_region_N (fun w' => Below w1.heap.size w1 w') (fun _ => true) (by kernel_rfl) ?_
    rw [← hD.out]
    have hS0 := hd
    clear hD
    refine wpAnyN_take (i := 0) (v := ?v1) rfl (by kernel_rfl) (by kernel_rfl) (by kernel_rfl) (by kernel_rfl) (fun _ _ _ h => h) (Or.inl ⟨by rfl, ?hy1⟩) (by assumption) ?_
    case hy1 => intro w hSw; (try dsimp only at hSw); go_simp; try with_reducible rfl
    simp only [Act.put, List.getElem_toArray, List.getElem_cons_zero, List.setIfInBounds_toArray, List.set_cons_zero, List.set_cons_succ]
    refine wpAnyN_take (i := 1) (v := ?v2) rfl (by kernel_rfl) (by kernel_rfl) (by kernel_rfl) (by kernel_rfl) (fun _ _ _ h => h) (Or.inl ⟨by rfl, ?hy2⟩) (by assumption) ?_
    case hy2 => intro w hSw; have hh := BlkNext HK1.out hSw; have c0 := hh.cell 0; have c1 := hh.cell 1; have c2 := hh.cell 2; have c3 := hh.cell 3; have c4 := hh.cell 4; have c5 := hh.cell 5; have c6 := hh.cell 6; have c7 := hh.cell 7; have cl := hh.lt; simp at c0 c1 c2 c3 c4 c5 c6 c7; clear hh; go_simp; try with_reducible rfl
    simp only [Act.put, List.getElem_toArray, List.getElem_cons_zero, List.getElem_cons_succ, List.setIfInBounds_toArray, List.set_cons_zero, List.set_cons_succ]
    refine wpAnyN_take (i := 5) (v := ?v3) rfl (by kernel_rfl) (by kernel_rfl) (by kernel_rfl) (by kernel_rfl) (fun _ _ _ h => h) (Or.inl ⟨by rfl, ?hy3⟩) (by assumption) ?_
    case hy3 => intro w hSw; (try dsimp only at hSw); go_simp; try with_reducible rfl
    simp only [Act.put, List.getElem_toArray, List.getElem_cons_zero, List.getElem_cons_succ, List.setIfInBounds_toArray, List.set_cons_zero, List.set_cons_succ]
    refine wpAnyN_take (i := 6) (v := ?v4) rfl (by kernel_rfl) (by kernel_rfl) (by kernel_rfl) (by kernel_rfl) (fun _ _ _ h => h) (Or.inl ⟨by rfl, ?hy4⟩) (by assumption) ?_
    case hy4 => intro w hSw; have hh := BlkNext HK1.out hSw; have c0 := hh.cell 0; have c1 := hh.cell 1; have c2 := hh.cell 2; have c3 := hh.cell 3; have c4 := hh.cell 4; have c5 := hh.cell 5; have c6 := hh.cell 6; have c7 := hh.cell 7; have cl := hh.lt; simp at c0 c1 c2 c3 c4 c5 c6 c7; clear hh; go_simp; try with_reducible rfl
    simp only [Act.put, List.getElem_toArray, List.getElem_cons_zero, List.getElem_cons_succ, List.setIfInBounds_toArray, List.set_cons_zero, List.set_cons_succ]
    refine wpAnyN_take (i := 10) (v := ?v5) rfl (by kernel_rfl) (by kernel_rfl) (by kernel_rfl) (by kernel_rfl) (fun _ _ _ h => h) (Or.inl ⟨by rfl, ?hy5⟩) (by assumption) ?_
    case hy5 => intro w hSw; (try dsimp only at hSw); go_simp; try with_reducible rfl
    simp only [Act.put, List.getElem_toArray, List.getElem_cons_zero, List.getElem_cons_succ, List.setIfInBounds_toArray, List.set_cons_zero, List.set_cons_succ]
    refine wpAnyN_take (i := 11) (v := ?v6) rfl (by kernel_rfl) (by kernel_rfl) (by kernel_rfl) (by kernel_rfl) (fun _ _ _ h => h) (Or.inl ⟨by rfl, ?hy6⟩) (by assumption) ?_
    case hy6 => intro w hSw; have hh := BlkNext HK1.out hSw; have c0 := hh.cell 0; have c1 := hh.cell 1; have c2 := hh.cell 2; have c3 := hh.cell 3; have c4 := hh.cell 4; have c5 := hh.cell 5; have c6 := hh.cell 6; have c7 := hh.cell 7; have cl := hh.lt; simp at c0 c1 c2 c3 c4 c5 c6 c7; clear hh; go_simp; try with_reducible rfl
    simp only [Act.put, List.getElem_toArray, List.getElem_cons_zero, List.getElem_cons_succ, List.setIfInBounds_toArray, List.set_cons_zero, List.set_cons_succ]
    refine wpAnyN_one (i := 2) (by kernel_rfl) rfl (fun K hK => ?_)
    simp only [List.getElem_toArray, List.getElem_cons_zero, List.getElem_cons_succ]
    go_simp
    obtain ⟨y0, hy0⟩ : ∃ y, Hid (y = numL b.id) := ⟨_, rfl⟩
    obtain ⟨y1, hy1⟩ : ∃ y, Hid (y = predL b.pn.data.toList b.par b.paux) := ⟨_, rfl⟩
    obtain ⟨y2, hy2⟩ : ∃ y, Hid (y = keyL b.kk b.kn b.knm.data.toList b.kar) := ⟨_, rfl⟩
    have hz0 : (S y0).size ≤ 21 := by rw [S_size, hy0.out]; exact num_len _ HD.out.id
    have hz1 : (S y1).size ≤ 450 := by rw [S_size, hy1.out]; exact HD.out.pl
    have hz2 : (S y2).size ≤ 450 := by rw [S_size, hy2.out]; exact HD.out.kl HR.out.kn
    refine (number_any b.id D HD.out.id).mono ?_
    rintro e w3 ⟨rfl, hb3⟩
    rw [← hy0.out]
    have hk3 : Below w1.heap.size w1 w3 := bNext hd hb3
    refine hK _ _ (fun _ => hk3) ?_
    clear hb3
    (try simp only [Act.put, List.setIfInBounds_toArray, List.set_cons_zero, List.set_cons_succ])
    refine wpAnyN_take (i := 3) (v := .string ((⟨#[98, 108, 111, 99, 107, 32]⟩ : ByteArray) ++ S y0)) rfl (by kernel_rfl) (by kernel_rfl) (by kernel_rfl) (by kernel_rfl) (fun _ _ _ h => h) (Or.inl ⟨by rfl, ?hv3⟩) (by assumption) ?_
    case hv3 => intro w hSw; go_simp; omega
    simp only [Act.put, List.getElem_toArray, List.getElem_cons_zero, List.getElem_cons_succ, List.setIfInBounds_toArray, List.set_cons_zero, List.set_cons_succ]
    refine wpAnyN_take (i := 4) (v := .string ((⟨#[98, 108, 111, 99, 107, 32]⟩ : ByteArray) ++ S y0 ++ ⟨#[32]⟩)) rfl (by kernel_rfl) (by kernel_rfl) (by kernel_rfl) (by kernel_rfl) (fun _ _ _ h => h) (Or.inl ⟨by rfl, ?hv4⟩) (by assumption) ?_
    case hv4 => intro w hSw; go_simp; omega
    simp only [Act.put, List.getElem_toArray, List.getElem_cons_zero, List.getElem_cons_succ, List.setIfInBounds_toArray, List.set_cons_zero, List.set_cons_succ]
    refine wpAnyN_one (i := 7) (by kernel_rfl) rfl (fun K hK => ?_)
    simp only [List.getElem_toArray, List.getElem_cons_zero, List.getElem_cons_succ]
    go_simp
    refine (Pred_any b.pn b.par b.paux w3 HD.out.pn HD.out.par HD.out.paux HPX.out).mono ?_
    rintro e w4 ⟨rfl, hb4⟩
    rw [← hy1.out]
    have hk4 : Below w1.heap.size w1 w4 := bNext hk3 hb4
    refine hK _ _ (fun _ => hk4) ?_
    clear hb4
    (try simp only [Act.put, List.setIfInBounds_toArray, List.set_cons_zero, List.set_cons_succ])
    refine wpAnyN_take (i := 8) (v := .string ((⟨#[98, 108, 111, 99, 107, 32]⟩ : ByteArray) ++ S y0 ++ ⟨#[32]⟩ ++ S y1)) rfl (by kernel_rfl) (by kernel_rfl) (by kernel_rfl) (by kernel_rfl) (fun _ _ _ h => h) (Or.inl ⟨by rfl, ?hv8⟩) (by assumption) ?_
    case hv8 => intro w hSw; go_simp; omega
    simp only [Act.put, List.getElem_toArray, List.getElem_cons_zero, List.getElem_cons_succ, List.setIfInBounds_toArray, List.set_cons_zero, List.set_cons_succ]
    refine wpAnyN_take (i := 9) (v := .string ((⟨#[98, 108, 111, 99, 107, 32]⟩ : ByteArray) ++ S y0 ++ ⟨#[32]⟩ ++ S y1 ++ ⟨#[32]⟩)) rfl (by kernel_rfl) (by kernel_rfl) (by kernel_rfl) (by kernel_rfl) (fun _ _ _ h => h) (Or.inl ⟨by rfl, ?hv9⟩) (by assumption) ?_
    case hv9 => intro w hSw; go_simp; omega
    simp only [Act.put, List.getElem_toArray, List.getElem_cons_zero, List.getElem_cons_succ, List.setIfInBounds_toArray, List.set_cons_zero, List.set_cons_succ]
    refine wpAnyN_one (i := 12) (by kernel_rfl) rfl (fun K hK => ?_)
    simp only [List.getElem_toArray, List.getElem_cons_zero, List.getElem_cons_succ]
    go_simp
    refine (Key_any b.kk b.kn b.knm b.kar w4 HD.out.knm HD.out.kar HR.out.kn).mono ?_
    rintro e w5 ⟨rfl, hb5⟩
    rw [← hy2.out]
    have hk5 : Below w1.heap.size w1 w5 := bNext hk4 hb5
    refine hK _ _ (fun _ => hk5) ?_
    clear hb5
    (try simp only [Act.put, List.setIfInBounds_toArray, List.set_cons_zero, List.set_cons_succ])
    refine wpAnyN_take (i := 13) (v := .string ((⟨#[98, 108, 111, 99, 107, 32]⟩ : ByteArray) ++ S y0 ++ ⟨#[32]⟩ ++ S y1 ++ ⟨#[32]⟩ ++ S y2)) rfl (by kernel_rfl) (by kernel_rfl) (by kernel_rfl) (by kernel_rfl) (fun _ _ _ h => h) (Or.inl ⟨by rfl, ?hv13⟩) (by assumption) ?_
    case hv13 => intro w hSw; go_simp; omega
    simp only [Act.put, List.getElem_toArray, List.getElem_cons_zero, List.getElem_cons_succ, List.setIfInBounds_toArray, List.set_cons_zero, List.set_cons_succ]
    refine wpAnyN_take (i := 14) (v := .string ((⟨#[98, 108, 111, 99, 107, 32]⟩ : ByteArray) ++ S y0 ++ ⟨#[32]⟩ ++ S y1 ++ ⟨#[32]⟩ ++ S y2 ++ ⟨#[10]⟩)) rfl (by kernel_rfl) (by kernel_rfl) (by kernel_rfl) (by kernel_rfl) (fun _ _ _ h => h) (Or.inl ⟨by rfl, ?hv14⟩) (by assumption) ?_
    case hv14 => intro w hSw; go_simp; omega
    simp only [Act.put, List.getElem_toArray, List.getElem_cons_zero, List.getElem_cons_succ, List.setIfInBounds_toArray, List.set_cons_zero, List.set_cons_succ]
    have HST := Lib.hid (show (⟨#[98, 108, 111, 99, 107, 32]⟩ : ByteArray) ++ S y0 ++ ⟨#[32]⟩ ++ S y1 ++ ⟨#[32]⟩ ++ S y2 ++ ⟨#[10]⟩ = S (headL b ++ [10]) by
      rw [show (⟨#[98, 108, 111, 99, 107, 32]⟩ : ByteArray) = S blockW from rfl, show (⟨#[32]⟩ : ByteArray) = S [32] from rfl, show (⟨#[10]⟩ : ByteArray) = S [10] from rfl]
      simp only [S_app]
      rw [hy0.out, hy1.out, hy2.out]
      unfold headL
      simp)
    rw [HST.out]
    have HLN := Lib.hid (head_len HV.out.1 HR.out.kn)
    obtain ⟨ov, w6, hcv, hown, hb6⟩ := conv_own w5 (headL b ++ [10]) bs (Nat.le_trans hb1 hk5.size) (by have := HLN.out; simp; omega)
    have HW6 := Lib.hid hown
    have hk6 : Below w1.heap.size w1 w6 := bNext hk5 hb6
    have hbb6 : bs ≤ w6.heap.size := Nat.le_trans hb1 hk6.size
    refine wpAnyN_one (i := 15) (by kernel_rfl) rfl (fun K hK => ?_)
    simp only [List.getElem_toArray, List.getElem_cons_zero, List.getElem_cons_succ]
    go_simp
    refine hK _ _ (fun _ => hk6) ?_
    (try simp only [Act.put, List.setIfInBounds_toArray, List.set_cons_zero, List.set_cons_succ])
    refine wpAnyN_take (i := 16) (v := ?v7) rfl (by kernel_rfl) (by kernel_rfl) (by kernel_rfl) (by kernel_rfl) (fun _ _ _ h => h) (Or.inl ⟨by rfl, ?hy7⟩) (by assumption) ?_
    case hy7 => intro w hSw; (try dsimp only at hSw); go_simp; try with_reducible rfl
    simp only [Act.put, List.getElem_toArray, List.getElem_cons_zero, List.getElem_cons_succ, List.setIfInBounds_toArray, List.set_cons_zero, List.set_cons_succ]
    refine wpAnyN_done (by kernel_rfl) ?_ _
    have HB6 := Lib.hid (show Below bs w1 w6 from hk6.mono hb1)
    clear hown hb6 hk3 hk4 hk5 hk6 hS0 hd hz0 hz1 hz2 hcv hbb6
    have HN1 := Lib.hid (show b.code.length ≤ 131072 from HV.out.2.2)
    obtain ⟨n, hn⟩ : ∃ n, Hid (n = b.code.length) := ⟨_, rfl⟩
    rw [← hn.out] at hnl
    go_wp2_with fail
    go_loopw [4, 5] (fun v i wr => ∃ j : Nat, i = .int .i64 j ∧ j ≤ n ∧ Hid (OwnM wr bs v (headL b ++ [10] ++ (b.code.take j).flatMap fun x => lineL x ++ [10])) ∧ Hid (Below bs w1 wr)) (fun _ i _ => n - (intOf i).toNat)
    case atStart => exact ⟨0, rfl, Nat.zero_le _, Lib.hid (by simpa using HW6.out), HB6⟩
    case round =>
      obtain ⟨j, rfl, hj, HOW, HBW⟩ := hrel
      have hlen : (headL b ++ [10] ++ (b.code.take j).flatMap fun x => lineL x ++ [10]).length ≤ 1001 + j * 1001 := by
        have h1 := HLN.out
        have h2 := lines_len (b.code.take j) (fun x hx => ⟨HFO.out x (List.mem_of_mem_take hx), HR.out.n x (List.mem_of_mem_take hx)⟩)
        have h3 : (b.code.take j).length ≤ j := List.length_take_le _ _
        simp only [List.length_append, List.length_cons, List.length_nil] at h2 ⊢
        have h4 : (b.code.take j).length * 1001 ≤ j * 1001 := Nat.mul_le_mul_right _ h3
        omega
      have HLE := Lib.hid hlen
      have HN2 := Lib.hid (show n ≤ 131072 by rw [hn.out]; exact HN1.out)
      have HBF := Lib.hid (show Below w.heap.size w _ from HB1.out.trans (HBW.out.mono hwb))
      have HK3 := Lib.hid (HK1.out.below HBW.out hqb)
      clear hlen
      have c0 := HK3.out.cell 0
      have c1 := HK3.out.cell 1
      have c2 := HK3.out.cell 2
      have c3 := HK3.out.cell 3
      have c4 := HK3.out.cell 4
      have c5 := HK3.out.cell 5
      have c6 := HK3.out.cell 6
      have c7 := HK3.out.cell 7
      have c8 := HK3.out.cell 8
      have cl := HK3.out.lt
      simp at c0 c1 c2 c3 c4 c5 c6 c7 c8
      rw [← hn.out] at c8
      by_cases hlt : j < n
      · obtain ⟨cb, off, x, rfl, hcb, hx, hcs⟩ := HA.out.at (by rw [← hn.out]; exact hlt)
        have hx6 := hcs.below hcb HBF.out
        obtain ⟨q0, q1, q2, q3, q4, q5⟩ := hx6
        have hbz : cb < wr.heap.size := by have := HBF.out.size; omega
        have hlj : decide ((j : Int) < (n : Int)) = true := by simp; omega
        have HSN := Lib.hid (show (headL b ++ [10] ++ (b.code.take j).flatMap fun x => lineL x ++ [10]) ++ lineL x ++ [10] = headL b ++ [10] ++ (b.code.take (j + 1)).flatMap fun x => lineL x ++ [10] by
          rw [List.take_add_one, hx]; simp)
        have HXF := Lib.hid (HFO.out x (List.mem_of_getElem? hx))
        have HXN := Lib.hid (HR.out.n x (List.mem_of_getElem? hx))
        have hji : IntKind.wrap .i64 ((j : Int) + 1) = (j : Int) + 1 := wrapI (by have := HN2.out; omega)
        clear hx hcs hcb
        generalize (headL b ++ [10] ++ (b.code.take j).flatMap fun x => lineL x ++ [10]) = l at HOW HSN HLE
        go_wp2_with fail
        refine (Line_any x wr HXF.out HXN.out).mono ?_
        rintro e w7 ⟨rfl, hb7⟩
        have HO7 := Lib.hid (HOW.out.next hb7)
        have HB7 := Lib.hid (HBW.out.trans (hb7.mono (Nat.le_trans hb1 HBW.out.size)))
        have HLL := Lib.hid (line_len HXF.out HXN.out)
        clear hb7 q0 q1 q2 q3 q4 q5 c0 c1 c2 c3 c4 c5 c6 c7 c8 cl
        go_wp2_with (at_builtin; refine wpList_app_str rfl (.tmp 32) (.tmp 38) rfl hi hiz HSI.out HBY.out rfl HO7.out rfl ?a1 ?a2 ?_)
        case a1 => have h1 := HLE.out; have h2 := HN2.out; have h3 := HLL.out; omega
        case a2 => exact Nat.le_trans hb1 HB7.out.size
        intro v8 w8 ho8 hg8
        have HO8 := Lib.hid ho8
        have HB8 := Lib.hid (below_row HB7.out hb1 HO7.out hg8)
        clear ho8 hg8
        go_wp2_with (at_builtin; refine wpList_app_one (m := [10]) rfl (.tmp 40) (.tmp 41) rfl hi hiz HSI.out HBY.out rfl (HO8.out.next (bAlloc _ _)) ⟨w8.heap.size, 0, none⟩ 1 rfl (cell_one_new _ _ _) ?b1 ?b2 ?_)
        case b1 => have h1 := HLE.out; have h2 := HN2.out; have h3 := HLL.out; simp only [List.length_append, List.length_cons, List.length_nil]; omega
        case b2 => have := HB8.out.size; simp; omega
        intro v9 w9 ho9 hg9
        have HO9 := Lib.hid (show OwnM w9 bs v9 (headL b ++ [10] ++ (b.code.take (j + 1)).flatMap fun x => lineL x ++ [10]) by rw [← HSN.out, List.append_assoc]; exact ho9)
        have HB9 := Lib.hid (below_row (HB8.out.alloc (Nat.le_trans hb1 HB8.out.size) _) hb1 (HO8.out.next (bAlloc _ _)) hg9)
        clear ho9 hg9
        go_wp2_with fail
        exact ⟨⟨j + 1, by go_num, hlt, HO9, HB9⟩, by simp [intOf]; omega⟩
      · have hlj : decide ((j : Int) < (n : Int)) = false := by simp; omega
        have HTX := Lib.hid (show headL b ++ [10] ++ ((b.code.take j).flatMap fun x => lineL x ++ [10]) = textL b by
          rw [List.take_of_length_le (by rw [← hn.out]; omega)]
          unfold textL
          simp)
        rw [HTX.out] at HOW HLE
        obtain ⟨g, cap, rfl⟩ := HOW.out.form
        have hbk := HOW.out.back
        by_cases hlong : 16384 < (textL b).length
        · have q1 : decide (16384 < ((textL b).length : Int)) = true := by simp; omega
          have HT2 := Lib.hid (show textV b = ([], 2) by rw [HT.out, if_pos hlong])
          obtain ⟨tl, htl⟩ : ∃ t, Hid (t = textL b) := ⟨_, rfl⟩
          rw [← htl.out] at hbk HOW HLE q1 ⊢
          clear hlong
          go_wp2_with fail
          go_ret2
          rw [HT2.out]
          exact ⟨rfl, HBF.out⟩
        · have q1 : decide (16384 < ((textL b).length : Int)) = false := by simp; omega
          have HT2 := Lib.hid (show textV b = (textL b, 0) by rw [HT.out, if_neg hlong])
          obtain ⟨tl, htl⟩ : ∃ t, Hid (t = textL b) := ⟨_, rfl⟩
          rw [← htl.out] at hbk HOW HLE q1 HT2 ⊢
          clear hlong
          go_wp2_with fail
          go_ret2
          rw [HT2.out]
          exact ⟨rfl, HBF.out⟩
end
end Go.Proofs.YtbipeakinmbdiaaGreatDoor
