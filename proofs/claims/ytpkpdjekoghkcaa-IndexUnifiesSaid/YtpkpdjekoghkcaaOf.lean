/-
  The state of the reference's loop that builds an index, and how each of its steps keeps it. No program.
-/
import Derived.Test.YtpkpdjekoghkcaaPlain
import Derived.Test.YtpkpdjekoghkcaaFam
namespace Go.Proofs.Ytpkpdjekoghkcaa
open Go.RowKit

/-- the key of a variable -/
def zeroK : K := ⟨0, 0, { data := #[] }, 0⟩

/-- the state of 'of' at the head of a round -/
structure OfSt (w : World) (ks : List K) (n j bx : Nat) (vs : Nat → Value) (ls : Nat → List Int) (vR : Value) (wr : World) : Prop where
  below : Below w.heap.size w wr
  bxw : w.heap.size < bx
  res : Blk wr w.heap.size 26 #[.slice none 0 0, .slice none 0 0, .slice none 0 0]
  box : Blk wr bx 26 #[vs 0, vR, vs 1]
  fam : Fam wr 3 w.heap.size ((nubTo ks j).length + 2) vs ls
  l0 : ls 0 = listTo ks zeroK n
  l1 : ls 1 = restTo ks j
  l2 : ∀ r x, (nubTo ks j)[r]? = some x → ls (2 + r) = listTo ks x n
  rows : wr.ownsRow w.heap.size 62 5 vR (nubTo ks j).length (rowCs vs (nubTo ks j) 2)

section
variable {w wr w2 w3 : World} {ks : List K} {n j bx : Nat} {vs : Nat → Value} {ls : Nat → List Int} {vR : Value}
theorem OfSt.next (h : OfSt w ks n j bx vs ls vR wr) (hb : Below wr.heap.size wr w2) : OfSt w ks n j bx vs ls vR w2 where
  below := bNext h.below hb
  bxw := h.bxw
  res := h.res.below hb h.res.lt
  box := h.box.below hb h.box.lt
  fam := h.fam.stay fun g cs hg => hb.block g (Blk.lt (t := 3) (cs := cs) hg)
  l0 := h.l0
  l1 := h.l1
  l2 := h.l2
  rows := own_below h.rows hb

theorem blk_type {w : World} {g t t' : Nat} {cs cs' : Array Value} (h : Blk w g t cs) (h' : w.heap[g]? = some (Obj.cells cs' t' (0, 0))) : t = t' := by
  unfold Blk at h; rw [h] at h'; injection h' with h'; injection h' with _ ht _

theorem OfSt.appRest (h : OfSt w ks n j bx vs ls vR wr) {x : K} (hx : ks[j]? = some x) (h0 : (x.kind == 0) = true) {o : Obj} {v' : Value}
    (ho : w3.ownsRow w.heap.size 3 1 v' ((ls 1).length + 1) ((ls 1 ++ [(j : Int)]).map (.int .i64))) (hg : (wr.alloc o).grownBy w3 (vs 1).ownBlock)
    (hat : v'.ownBlock = (vs 1).ownBlock ∨ v'.ownBlock = some (wr.alloc o).heap.size) :
    OfSt w ks n (j + 1) bx (upd vs 1 v') (upd ls 1 (ls 1 ++ [(j : Int)])) vR (w3.setCell ⟨bx, 2, none⟩ v') := by
  have h1 := h.next (bAlloc wr o)
  have hn1 : nubTo ks (j + 1) = nubTo ks j := nubTo_var hx h0
  have hb3 : Below w.heap.size w w3 := bGrown h1.below (h1.fam.own 1 (by omega)) hg h1.below.size (Nat.le_refl _)
  have hbx : Blk w3 bx 26 #[vs 0, vR, vs 1] := h1.box.grown hg (own_ne (h1.fam.own 1 (by omega)) h1.box (by decide))
  have hrs := own_ne (h1.fam.own 1 (by omega)) h1.res (by decide)
  refine ⟨hb3.setCell (Nat.le_of_lt h.bxw) _, h.bxw, ?_, ?_, ?_, ?_, ?_, ?_, ?_⟩
  · exact (h1.res.grown hg hrs).far (Nat.ne_of_lt h.bxw) _
  · have := hbx.set_ 2 v'
    simpa [upd] using this
  · rw [hn1]
    refine (h1.fam.app (i := 1) (by omega) (by simpa using ho) hg hat).stay fun g cs hgc => heap_setCell_other _ _ _ _ ?_
    rintro rfl
    exact absurd (blk_type hbx hgc) (by decide)
  · rw [upd_other _ _ (by decide)]; exact h.l0
  · rw [upd_same, h.l1, restTo_yes hx h0]
  · rw [hn1]; intro r y hy; rw [upd_other _ _ (by omega)]; exact h.l2 r y hy
  · rw [hn1, rowCs_congr (us := vs) (fun k hk _ => upd_other _ _ (by omega))]
    have hr3 : w3.ownsRow w.heap.size 62 5 vR (nubTo ks j).length (rowCs vs (nubTo ks j) 2) := own_stay h1.rows fun g hgv => hg.block g ((h1.rows.lt g hgv).2) (fun e => by
      obtain ⟨cs, hc⟩ := own_type h1.rows hgv
      exact own_ne (h1.fam.own 1 (by omega)) hc (by decide) e.symm)
    refine own_stay hr3 fun g hgv => heap_setCell_other _ _ _ _ ?_
    rintro rfl
    obtain ⟨cs, hc⟩ := own_type hr3 hgv
    exact absurd (blk_type hbx hc) (by decide)

theorem OfSt.appRow (h : OfSt w ks n j bx vs ls vR wr) {x : K} (hx : ks[j]? = some x) (h0 : (x.kind == 0) = false) (hnew : (nubTo ks j).any (K.eqv x ·) = false) {v v' : Value} {o : Obj}
    (hb2 : Below wr.heap.size wr w2) (hv : w2.ownsRow wr.heap.size 3 1 v (listTo ks x n).length ((listTo ks x n).map (.int .i64)))
    (ho : w3.ownsRow w.heap.size 62 5 v' ((nubTo ks j).length + 1) (rowCs vs (nubTo ks j) 2 ++ [.int .i64 x.kind, .int .i64 x.n, .string x.name, .int .i64 x.ar, v])) (hg : (w2.alloc o).grownBy w3 vR.ownBlock) :
    OfSt w ks n (j + 1) bx (upd vs ((nubTo ks j).length + 2) v) (upd ls ((nubTo ks j).length + 2) (listTo ks x n)) v' (w3.setCell ⟨bx, 1, none⟩ v') := by
  have hn1 : nubTo ks (j + 1) = nubTo ks j ++ [x] := nubTo_new hx h0 hnew
  have h1 := (h.next hb2).next (bAlloc w2 o)
  have hb3 : Below w.heap.size w w3 := bGrown h1.below h1.rows hg h1.below.size (Nat.le_refl _)
  have hbx : Blk w3 bx 26 #[vs 0, vR, vs 1] := h1.box.grown hg (own_ne h1.rows h1.box (by decide))
  have hrs := own_ne h1.rows h1.res (by decide)
  have hfam := h.fam.add hb2 hv h.below.size
  have hfam1 := hfam.stay (w' := w2.alloc o) fun g cs hgc => Below.heap_alloc _ _ _ (Blk.lt (t := 3) (cs := cs) hgc)
  have hfam3 := hfam1.stay (w' := w3) fun g cs hgc => hg.block g (Blk.lt (t := 3) (cs := cs) hgc) (fun e => own_ne h1.rows hgc (by decide) e.symm)
  refine ⟨hb3.setCell (Nat.le_of_lt h.bxw) _, h.bxw, ?_, ?_, ?_, ?_, ?_, ?_, ?_⟩
  · exact (h1.res.grown hg hrs).far (Nat.ne_of_lt h.bxw) _
  · have := hbx.set_ 1 v'
    rw [upd_other _ _ (by omega), upd_other _ _ (by omega)]
    simpa using this
  · rw [hn1, List.length_append]
    refine hfam3.stay fun g cs hgc => heap_setCell_other _ _ _ _ ?_
    rintro rfl
    exact absurd (blk_type hbx hgc) (by decide)
  · rw [upd_other _ _ (by omega)]; exact h.l0
  · rw [upd_other _ _ (by omega), h.l1, restTo_no hx h0]
  · rw [hn1]
    intro r y hy
    by_cases hr : r = (nubTo ks j).length
    · subst hr
      simp at hy
      subst hy
      rw [Nat.add_comm 2, upd_same]
    · have hlt : r < (nubTo ks j).length := by
        have := (List.getElem?_eq_some_iff.1 hy).1
        simp at this; omega
      rw [upd_other _ _ (by omega)]
      rw [List.getElem?_append_left hlt] at hy
      exact h.l2 r y hy
  · rw [hn1, List.length_append, rowCs_snoc, rowCs_congr (us := vs) (fun k _ hk => upd_other _ _ (by omega)), Nat.add_comm 2, upd_same]
    refine own_stay ho fun g hgv => heap_setCell_other _ _ _ _ ?_
    rintro rfl
    obtain ⟨cs, hc⟩ := own_type ho hgv
    exact absurd (blk_type hbx hc) (by decide)

theorem OfSt.skip (h : OfSt w ks n j bx vs ls vR wr) {x : K} (hx : ks[j]? = some x) (h0 : (x.kind == 0) = false) (hold : (nubTo ks j).any (K.eqv x ·) = true) : OfSt w ks n (j + 1) bx vs ls vR wr where
  below := h.below
  bxw := h.bxw
  res := h.res
  box := h.box
  fam := by rw [nubTo_old hx hold]; exact h.fam
  l0 := h.l0
  l1 := by rw [restTo_no hx h0]; exact h.l1
  l2 := by rw [nubTo_old hx hold]; exact h.l2
  rows := by rw [nubTo_old hx hold]; exact h.rows
end

theorem OfSt.init {w w1 : World} {ks : List K} {n : Nat} {v : Value} {o : Obj} (ho : o = .cells #[.slice none 0 0, .slice none 0 0, .slice none 0 0] 26) (hb : Below (w.alloc o).heap.size (w.alloc o) w1)
    (hv : w1.ownsRow (w.alloc o).heap.size 3 1 v (listTo ks zeroK n).length ((listTo ks zeroK n).map (.int .i64))) :
    OfSt w ks n 0 w1.heap.size (fun i => if i = 0 then v else .slice none 0 0) (fun i => if i = 0 then listTo ks zeroK n else []) (.slice none 0 0) (w1.alloc (.cells #[v, .slice none 0 0, .slice none 0 0] 26)) := by
  subst ho
  have hz : w.heap.size < w1.heap.size := by have := hb.size; simp at this; omega
  refine ⟨(bStart hb).alloc (by omega) _, hz, ?_, Blk.new _ _ _, ?_, rfl, rfl, fun r x h => by simp [nubTo] at h, World.ownsRow_nil _ _ _ _⟩
  · exact ((Blk.new w _ _).below hb (by simp)).alloc _
  · refine ⟨fun i hi => ?_, fun i j b hi hj hne => ?_⟩
    · by_cases h0 : i = 0
      · simp only [h0, if_true]; exact own_base (hv.alloc _) (by simp)
      · simp only [h0, if_false]; exact World.ownsRow_nil _ _ _ _
    · by_cases h0 : i = 0
      · have : j ≠ 0 := by omega
        simp [this, Value.ownBlock]
      · simp [h0, Value.ownBlock]

/-- what the cells of rows read as -/
theorem rows_read {w : World} {base N : Nat} {vs : Nat → Value} {ls : Nat → List Int} {vR : Value} {l : List K} {f : K → List Int} (hm : l.length ≤ 1048576) (hf : Fam w 3 base N vs ls) (hN : l.length + 2 ≤ N)
    (hl : ∀ r x, l[r]? = some x → ls (2 + r) = f x) (hlen : ∀ x, (f x).length ≤ 1048576) (hr : w.ownsRow base 62 5 vR l.length (rowCs vs l 2)) :
    ∃ A c, vR = .slice A l.length c ∧ RowsAt w w.heap.size A l.length (l.map fun x => (x, f x)) := by
  rcases hr.2 with ⟨rfl, h0⟩ | ⟨g, cap, cur, rfl, hg, hh, h1, h2, h3, h4⟩
  · exact ⟨none, 0, by rw [h0], ⟨by simp, by omega⟩, fun h => absurd h (by omega)⟩
  · refine ⟨_, _, rfl, ⟨by simp, by omega⟩, fun _ => ⟨g, 0, rfl, (hr.lt g rfl).2, fun i y hy => ?_⟩⟩
    rw [List.getElem?_map] at hy
    obtain ⟨x, hx, rfl⟩ := Option.map_eq_some_iff.1 hy
    have hc : ∀ q u, (rowCs vs l 2)[q]? = some u → w.cell? ⟨g, 0 + q, none⟩ = some u := fun q u hu => by
      rw [Nat.zero_add, ← hr.cells (g := g) rfl q u hu]
      unfold Addr.add
      by_cases hi : q = 0 <;> simp [hi]
    obtain ⟨r0, r1, r2, r3, r4⟩ := rowCs_at vs 2 hx
    have hil := (List.getElem?_eq_some_iff.1 hx).1
    obtain ⟨A, c, hv, hI⟩ := hf.read (i := 2 + i) (by omega) (by rw [hl i x hx]; have := hlen x; omega)
    rw [hl i x hx] at hv hI
    rw [hv] at r4
    exact ⟨⟨hc _ _ r0, hc _ _ r1, hc _ _ r2, hc _ _ r3⟩, A, c, hc _ _ r4, hI⟩
section
variable {w wr w2 w3 : World} {ks : List K} {n j bx : Nat} {vs : Nat → Value} {ls : Nat → List Int} {vR : Value}
theorem OfSt.done (st : OfSt w ks n n bx vs ls vR wr) (hn : n ≤ 1048576) (u0 u1 u2 : Value) {W : World} (hW : W = ((wr.setCell ⟨w.heap.size, 0, none⟩ u0).setCell ⟨w.heap.size, 1, none⟩ u1).setCell ⟨w.heap.size, 2, none⟩ u2) :
    IxAt W W.heap.size (.agg #[vs 0, vR, vs 1]) ⟨listTo ks zeroK n, (nubTo ks n).map fun x => (x, listTo ks x n), restTo ks n⟩ ∧ Below w.heap.size w W := by
  have hnl := nubTo_len ks n
  have hk : ∀ (g : Nat) (cs : Array Value) (t : Nat), t ≠ 26 → wr.heap[g]? = some (Obj.cells cs t (0, 0)) → W.heap[g]? = wr.heap[g]? := fun g cs t ht hg => by
    have hne : g ≠ w.heap.size := by rintro rfl; exact ht (blk_type st.res hg).symm
    rw [hW, heap_setCell_other _ _ _ _ hne, heap_setCell_other _ _ _ _ hne, heap_setCell_other _ _ _ _ hne]
  have fam : Fam W 3 w.heap.size ((nubTo ks n).length + 2) vs ls := st.fam.stay fun g cs hg => hk g cs 3 (by decide) hg
  have rows : W.ownsRow w.heap.size 62 5 vR (nubTo ks n).length (rowCs vs (nubTo ks n) 2) := own_stay st.rows fun g hg => by
    obtain ⟨cs, hc⟩ := own_type st.rows hg
    exact hk g cs 62 (by decide) hc
  obtain ⟨B0, d0, e0, hi0⟩ := fam.read (i := 0) (by omega) (by rw [st.l0]; have := listTo_len ks zeroK n; omega)
  obtain ⟨B1, d1, e1, hi1⟩ := fam.read (i := 1) (by omega) (by rw [st.l1]; have := restTo_len ks n; omega)
  obtain ⟨B2, d2, e2, hi2⟩ := rows_read (f := fun x => listTo ks x n) (by omega) fam (Nat.le_refl _) st.l2 (fun x => by have := listTo_len ks x n; omega) rows
  refine ⟨⟨B0, d0, B2, d2, B1, d1, ?_, ?_, ?_, ?_⟩, ?_⟩
  · rw [e0, e1, e2, st.l0, st.l1]; simp
  · rw [← st.l0]; exact hi0
  · simpa using hi2
  · rw [← st.l1]; exact hi1
  · rw [hW]
    exact ((st.below.setCell (Nat.le_refl _) _).setCell (Nat.le_refl _) _).setCell (Nat.le_refl _) _

end
end Go.Proofs.Ytpkpdjekoghkcaa
