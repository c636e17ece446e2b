/-
  The state of the builder of the index package, and how each of its steps keeps it.
-/
import Derived.Test.YtpkpdjekoghkcaaMp
import Derived.Test.YtpkpdjekoghkcaaLs
namespace Go.Proofs.Ytpkpdjekoghkcaa
open Go.RowKit

/-- the state while the rows are made: no list yet -/
structure B1 (w : World) (ks : List K) (j bx gm : Nat) (vR : Value) (wr : World) : Prop where
  below : Below w.heap.size w wr
  bxw : w.heap.size < bx
  gmw : w.heap.size ≤ gm
  res : Blk wr w.heap.size 26 #[.slice none 0 0, .slice none 0 0, .slice none 0 0]
  box : Blk wr bx 26 #[.slice none 0 0, vR, .slice none 0 0]
  mp : MapAt wr gm (nubTo ks j)
  rows : wr.ownsRow w.heap.size 62 5 vR (nubTo ks j).length (rowCs (fun _ => .slice none 0 0) (nubTo ks j) 2)

/-- the state while the lists are filled -/
structure Bd (w : World) (nub : List K) (bx gm : Nat) (vs : Nat → Value) (ls : Nat → List Int) (vR : Value) (wr : World) : Prop where
  below : Below w.heap.size w wr
  bxw : w.heap.size < bx
  gmw : w.heap.size ≤ gm
  res : Blk wr w.heap.size 26 #[.slice none 0 0, .slice none 0 0, .slice none 0 0]
  box : Blk wr bx 26 #[vs 0, vR, vs 1]
  mp : MapAt wr gm nub
  fam : Fam wr 3 w.heap.size (nub.length + 2) vs ls
  rows : wr.ownsRow w.heap.size 62 5 vR nub.length (rowCs vs nub 2)

section
variable {w wr w2 w3 : World} {ks nub : List K} {j bx gm : Nat} {vs : Nat → Value} {ls : Nat → List Int} {vR : Value}

theorem B1.next (h : B1 w ks j bx gm vR wr) (hb : Below wr.heap.size wr w2) : B1 w ks j bx gm vR w2 where
  below := bNext h.below hb
  bxw := h.bxw
  gmw := h.gmw
  res := h.res.below hb h.res.lt
  box := h.box.below hb h.box.lt
  mp := h.mp.stay (hb.block _ h.mp.lt)
  rows := own_below h.rows hb
theorem B1.skipVar (h : B1 w ks j bx gm vR wr) {x : K} (hx : ks[j]? = some x) (h0 : (x.kind == 0) = true) : B1 w ks (j + 1) bx gm vR wr := by
  have e := nubTo_var hx h0
  exact ⟨h.below, h.bxw, h.gmw, h.res, h.box, by rw [e]; exact h.mp, by rw [e]; exact h.rows⟩
theorem B1.skipOld (h : B1 w ks j bx gm vR wr) {x : K} (hx : ks[j]? = some x) (h0 : (nubTo ks j).any (K.eqv x ·) = true) : B1 w ks (j + 1) bx gm vR wr := by
  have e := nubTo_old hx h0
  exact ⟨h.below, h.bxw, h.gmw, h.res, h.box, by rw [e]; exact h.mp, by rw [e]; exact h.rows⟩
theorem own_notmap {base e size n g : Nat} {v : Value} {xs : List Value} {l : List K} (h : wr.ownsRow base e size v n xs) (hm : MapAt wr g l) (hg : wr.grownBy w2 (some g)) : w2.ownsRow base e size v n xs :=
  h.kept hg (by
    rcases hq : v.ownBlock with _ | q
    · exact .inl rfl
    · refine .inr ?_
      obtain ⟨cs, hc⟩ := own_type h hq
      intro e; exact hm.ne hc (by injection e with e; exact e.symm))
/-- a new row: the map written (w2), the row appended (w3), the slice stored -/
theorem B1.app (h : B1 w ks j bx gm vR wr) {x : K} (hx : ks[j]? = some x) (h0 : (x.kind == 0) = false) (hnew : (nubTo ks j).any (K.eqv x ·) = false) {v' : Value} {o : Obj}
    (hm : MapAt w2 gm (nubTo ks j ++ [x])) (hg2 : wr.grownBy w2 (some gm))
    (ho : w3.ownsRow w.heap.size 62 5 v' ((nubTo ks j).length + 1) (rowCs (fun _ => .slice none 0 0) (nubTo ks j) 2 ++ [.int .i64 x.kind, .int .i64 x.n, .string x.name, .int .i64 x.ar, .slice none 0 0])) (hg : (w2.alloc o).grownBy w3 vR.ownBlock) :
    B1 w ks (j + 1) bx gm v' (w3.setCell ⟨bx, 1, none⟩ v') := by
  have hn1 : nubTo ks (j + 1) = nubTo ks j ++ [x] := nubTo_new hx h0 hnew
  have hrows2 : w2.ownsRow w.heap.size 62 5 vR (nubTo ks j).length (rowCs (fun _ => .slice none 0 0) (nubTo ks j) 2) :=
    own_notmap h.rows h.mp hg2
  have hbx2 : Blk w2 bx 26 #[.slice none 0 0, vR, .slice none 0 0] := h.box.grown hg2 (fun e => by injection e with e; exact h.mp.ne h.box e)
  have hrs2 : Blk w2 w.heap.size 26 #[.slice none 0 0, .slice none 0 0, .slice none 0 0] := h.res.grown hg2 (fun e => by injection e with e; exact h.mp.ne h.res e)
  have hbx : Blk w3 bx 26 #[.slice none 0 0, vR, .slice none 0 0] := (hbx2.alloc o).grown hg (own_ne (hrows2.alloc o) (hbx2.alloc o) (by decide))
  have hb2 : Below w.heap.size w w2 := h.below.grown hg2 h.below.size (fun k hk => by injection hk with hk; have := h.gmw; omega)
  have hb3 : Below w.heap.size w w3 := bGrown (hb2.alloc hb2.size o) (hrows2.alloc o) hg (by have := hb2.size; simp; omega) (Nat.le_refl _)
  have hma : MapAt (w2.alloc o) gm (nubTo ks j ++ [x]) := hm.stay (Below.heap_alloc _ _ _ hm.lt)
  have hm3 : MapAt w3 gm (nubTo ks j ++ [x]) := hma.stay (hg.block gm hma.lt (fun e => by
    obtain ⟨es, c, h1, _⟩ := hma
    exact own_ne_map (hrows2.alloc o) h1 e.symm))
  refine ⟨hb3.setCell (Nat.le_of_lt h.bxw) _, h.bxw, h.gmw, ?_, ?_, ?_, ?_⟩
  · exact ((hrs2.alloc o).grown hg (own_ne (hrows2.alloc o) (hrs2.alloc o) (by decide))).far (Nat.ne_of_lt h.bxw) _
  · simpa using hbx.set_ 1 v'
  · rw [hn1]
    exact hm3.stay (heap_setCell_other _ _ _ _ (hm3.ne hbx))
  · rw [hn1, List.length_append, rowCs_snoc]
    refine own_stay ho fun g hgv => heap_setCell_other _ _ _ _ ?_
    rintro rfl
    obtain ⟨cs, hc⟩ := own_type ho hgv
    exact absurd (blk_type hbx hc) (by decide)
theorem B1.done (h : B1 w ks j bx gm vR wr) : Bd w (nubTo ks j) bx gm (fun _ => .slice none 0 0) (fun _ => []) vR wr :=
  ⟨h.below, h.bxw, h.gmw, h.res, h.box, h.mp, Fam.zero _ _ _ _, h.rows⟩

theorem Bd.next (h : Bd w nub bx gm vs ls vR wr) (hb : Below wr.heap.size wr w2) : Bd w nub bx gm vs ls vR w2 where
  below := bNext h.below hb
  bxw := h.bxw
  gmw := h.gmw
  res := h.res.below hb h.res.lt
  box := h.box.below hb h.box.lt
  mp := h.mp.stay (hb.block _ h.mp.lt)
  fam := h.fam.stay fun g cs hg => hb.block g (Blk.lt (t := 3) (cs := cs) hg)
  rows := own_below h.rows hb

/-- what an append to list i leaves: all but the place where the slice is kept -/
theorem Bd.grown (h : Bd w nub bx gm vs ls vR wr) {i : Nat} (hi : i < nub.length + 2) {o : Obj} {v' : Value} {y : Int}
    (ho : w3.ownsRow w.heap.size 3 1 v' ((ls i).length + 1) ((ls i ++ [y]).map (.int .i64))) (hg : (wr.alloc o).grownBy w3 (vs i).ownBlock)
    (hat : v'.ownBlock = (vs i).ownBlock ∨ v'.ownBlock = some (wr.alloc o).heap.size) :
    Below w.heap.size w w3 ∧ Blk w3 w.heap.size 26 #[.slice none 0 0, .slice none 0 0, .slice none 0 0] ∧ Blk w3 bx 26 #[vs 0, vR, vs 1] ∧ MapAt w3 gm nub ∧
    Fam w3 3 w.heap.size (nub.length + 2) (upd vs i v') (upd ls i (ls i ++ [y])) ∧ w3.ownsRow w.heap.size 62 5 vR nub.length (rowCs vs nub 2) := by
  have h1 := h.next (bAlloc wr o)
  refine ⟨bGrown h1.below (h1.fam.own i hi) hg h1.below.size (Nat.le_refl _), h1.res.grown hg (own_ne (h1.fam.own i hi) h1.res (by decide)), h1.box.grown hg (own_ne (h1.fam.own i hi) h1.box (by decide)), ?_, ?_, ?_⟩
  · refine h1.mp.stay (hg.block gm h1.mp.lt (fun e => ?_))
    obtain ⟨es, c, h2, _⟩ := h1.mp
    exact own_ne_map (h1.fam.own i hi) h2 e.symm
  · exact h1.fam.app hi (by simpa using ho) hg hat
  · exact own_stay h1.rows fun g hgv => hg.block g ((h1.rows.lt g hgv).2) (fun e => by
      obtain ⟨cs, hc⟩ := own_type h1.rows hgv
      exact own_ne (h1.fam.own i hi) hc (by decide) e.symm)

theorem Bd.app0 (h : Bd w nub bx gm vs ls vR wr) {o : Obj} {v' : Value} {y : Int}
    (ho : w3.ownsRow w.heap.size 3 1 v' ((ls 0).length + 1) ((ls 0 ++ [y]).map (.int .i64))) (hg : (wr.alloc o).grownBy w3 (vs 0).ownBlock)
    (hat : v'.ownBlock = (vs 0).ownBlock ∨ v'.ownBlock = some (wr.alloc o).heap.size) :
    Bd w nub bx gm (upd vs 0 v') (upd ls 0 (ls 0 ++ [y])) vR (w3.setCell ⟨bx, 0, none⟩ v') := by
  obtain ⟨hb3, hrs, hbx, hm3, hf3, hr3⟩ := h.grown (by omega) ho hg hat
  refine ⟨hb3.setCell (Nat.le_of_lt h.bxw) _, h.bxw, h.gmw, hrs.far (Nat.ne_of_lt h.bxw) _, ?_, hm3.stay (heap_setCell_other _ _ _ _ (hm3.ne hbx)), ?_, ?_⟩
  · simpa [upd] using hbx.set_ 0 v'
  · refine hf3.stay fun g cs hgc => heap_setCell_other _ _ _ _ ?_
    rintro rfl
    exact absurd (blk_type hbx hgc) (by decide)
  · rw [rowCs_congr (us := vs) (fun k hk _ => upd_other _ _ (by omega))]
    refine own_stay hr3 fun g hgv => heap_setCell_other _ _ _ _ ?_
    rintro rfl
    obtain ⟨cs, hc⟩ := own_type hr3 hgv
    exact absurd (blk_type hbx hc) (by decide)
theorem Bd.app1 (h : Bd w nub bx gm vs ls vR wr) {o : Obj} {v' : Value} {y : Int}
    (ho : w3.ownsRow w.heap.size 3 1 v' ((ls 1).length + 1) ((ls 1 ++ [y]).map (.int .i64))) (hg : (wr.alloc o).grownBy w3 (vs 1).ownBlock)
    (hat : v'.ownBlock = (vs 1).ownBlock ∨ v'.ownBlock = some (wr.alloc o).heap.size) :
    Bd w nub bx gm (upd vs 1 v') (upd ls 1 (ls 1 ++ [y])) vR (w3.setCell ⟨bx, 2, none⟩ v') := by
  obtain ⟨hb3, hrs, hbx, hm3, hf3, hr3⟩ := h.grown (by omega) ho hg hat
  refine ⟨hb3.setCell (Nat.le_of_lt h.bxw) _, h.bxw, h.gmw, hrs.far (Nat.ne_of_lt h.bxw) _, ?_, hm3.stay (heap_setCell_other _ _ _ _ (hm3.ne hbx)), ?_, ?_⟩
  · simpa [upd] using hbx.set_ 2 v'
  · refine hf3.stay fun g cs hgc => heap_setCell_other _ _ _ _ ?_
    rintro rfl
    exact absurd (blk_type hbx hgc) (by decide)
  · rw [rowCs_congr (us := vs) (fun k hk _ => upd_other _ _ (by omega))]
    refine own_stay hr3 fun g hgv => heap_setCell_other _ _ _ _ ?_
    rintro rfl
    obtain ⟨cs, hc⟩ := own_type hr3 hgv
    exact absurd (blk_type hbx hc) (by decide)

theorem rowCs_set (vs : Nat → Value) (l : List K) (v : Value) (r i : Nat) (hr : r < l.length) : (rowCs vs l i).set (r * 5 + 4) v = rowCs (upd vs (i + r) v) l i := by
  induction l generalizing r i with
  | nil => simp at hr
  | cons y t ih =>
    cases r with
    | zero =>
      simp only [rowCs, Nat.add_zero, upd_same, Nat.zero_mul, Nat.zero_add, List.set_cons_succ, List.set_cons_zero]
      rw [rowCs_congr (us := upd vs i v) (fun j h1 _ => (upd_other _ _ (by omega)).symm)]
    | succ r =>
      simp at hr
      rw [show (r + 1) * 5 + 4 = r * 5 + 4 + 1 + 1 + 1 + 1 + 1 from by omega]
      simp only [rowCs, List.set_cons_succ]
      rw [ih r (i + 1) hr, upd_other _ _ (by omega), show i + 1 + r = i + (r + 1) from by omega]

theorem Bd.appList (h : Bd w nub bx gm vs ls vR wr) {r gR cap : Nat} (hr : r < nub.length) (hv : vR = .slice (some ⟨gR, 0, none⟩) nub.length cap) {o : Obj} {v' : Value} {y : Int}
    (ho : w3.ownsRow w.heap.size 3 1 v' ((ls (2 + r)).length + 1) ((ls (2 + r) ++ [y]).map (.int .i64))) (hg : (wr.alloc o).grownBy w3 (vs (2 + r)).ownBlock)
    (hat : v'.ownBlock = (vs (2 + r)).ownBlock ∨ v'.ownBlock = some (wr.alloc o).heap.size) :
    Bd w nub bx gm (upd vs (2 + r) v') (upd ls (2 + r) (ls (2 + r) ++ [y])) vR (w3.setCell ⟨gR, r * 5 + 4, none⟩ v') := by
  obtain ⟨hb3, hrs, hbx, hm3, hf3, hr3⟩ := h.grown (by omega) ho hg hat
  obtain ⟨csR, hcR⟩ := own_type hr3 (g := gR) (by rw [hv]; rfl)
  have hbR : w.heap.size ≤ gR := (hr3.lt gR (by rw [hv]; rfl)).1
  have n1 : bx ≠ gR := by rintro rfl; exact absurd (blk_type hbx hcR) (by decide)
  have n2 : w.heap.size ≠ gR := by rintro e; rw [← e] at hcR; exact absurd (blk_type hrs hcR) (by decide)
  refine ⟨hb3.setCell hbR _, h.bxw, h.gmw, hrs.far n2 _, ?_, hm3.stay (heap_setCell_other _ _ _ _ (hm3.ne hcR)), ?_, ?_⟩
  · rw [upd_other _ _ (by omega), upd_other _ _ (by omega)]
    exact hbx.far n1 _
  · refine hf3.stay fun g cs hgc => heap_setCell_other _ _ _ _ ?_
    rintro rfl
    rw [hcR] at hgc
    injection hgc with hgc
    injection hgc with _ ht _
    exact absurd ht (by decide)
  · rw [hv] at hr3 ⊢
    have := (hr3.stored (r * 5 + 4) v').1
    rwa [rowCs_set _ _ _ _ _ hr] at this
theorem B1.init (w : World) (ks : List K) : B1 w ks 0 (w.heap.size + 1) (w.heap.size + 2) (.slice none 0 0) (((w.alloc (.cells #[.slice none 0 0, .slice none 0 0, .slice none 0 0] 26)).alloc (.cells #[.slice none 0 0, .slice none 0 0, .slice none 0 0] 26)).alloc (.map #[] 0)) := by
  refine ⟨(((Below.refl _ _).alloc (Nat.le_refl _) _).alloc (by simp) _).alloc (by simp; omega) _, by omega, by omega, ((Blk.new w _ _).alloc _).alloc _, ?_, ?_, World.ownsRow_nil _ _ _ _⟩
  · have := (Blk.new (w.alloc (.cells #[.slice none 0 0, .slice none 0 0, .slice none 0 0] 26)) 26 #[.slice none 0 0, .slice none 0 0, .slice none 0 0]).alloc (.map #[] 0)
    rwa [World.size_alloc] at this
  · have := MapAt.new ((w.alloc (.cells #[.slice none 0 0, .slice none 0 0, .slice none 0 0] 26)).alloc (.cells #[.slice none 0 0, .slice none 0 0, .slice none 0 0] 26))
    rw [World.size_alloc, World.size_alloc] at this
    exact this

theorem Bd.done {n : Nat} (st : Bd w (nubTo ks n) bx gm vs ls vR wr) (hls : LsOk ks (nubTo ks n) n ls) (hks : ks.length = n) (hn : n ≤ 1048576) (u0 u1 u2 : Value) {W : World}
    (hW : W = ((wr.setCell ⟨w.heap.size, 0, none⟩ u0).setCell ⟨w.heap.size, 1, none⟩ u1).setCell ⟨w.heap.size, 2, none⟩ u2) :
    IxAt W W.heap.size (.agg #[vs 0, vR, vs 1]) ⟨listTo ks zeroK n, (nubTo ks n).map fun x => (x, listTo ks x n), restTo ks n⟩ ∧ Below w.heap.size w W := by
  have hnl := nubTo_len ks n
  have hk : ∀ (g : Nat) (cs : Array Value) (t : Nat), t ≠ 26 → wr.heap[g]? = some (Obj.cells cs t (0, 0)) → W.heap[g]? = wr.heap[g]? := fun g cs t ht hg => by
    have hne : g ≠ w.heap.size := by rintro rfl; exact ht (blk_type st.res hg).symm
    rw [hW, heap_setCell_other _ _ _ _ hne, heap_setCell_other _ _ _ _ hne, heap_setCell_other _ _ _ _ hne]
  have fam : Fam W 3 w.heap.size ((nubTo ks n).length + 2) vs ls := st.fam.stay fun g cs hg => hk g cs 3 (by decide) hg
  have rows : W.ownsRow w.heap.size 62 5 vR (nubTo ks n).length (rowCs vs (nubTo ks n) 2) := own_stay st.rows fun g hg => by
    obtain ⟨cs, hc⟩ := own_type st.rows hg
    exact hk g cs 62 (by decide) hc
  have l0 : ls 0 = listTo ks zeroK n := by rw [hls.1, ← hks]; exact rangeTo_list ks zeroK rfl
  obtain ⟨B0, d0, e0, hi0⟩ := fam.read (i := 0) (by omega) (by rw [l0]; have := listTo_len ks zeroK n; omega)
  obtain ⟨B1, d1, e1, hi1⟩ := fam.read (i := 1) (by omega) (by rw [hls.2.1]; have := restTo_len ks n; omega)
  obtain ⟨B2, d2, e2, hi2⟩ := rows_read (f := fun x => listTo ks x n) (by omega) fam (Nat.le_refl _) hls.2.2 (fun x => by have := listTo_len ks x n; omega) rows
  refine ⟨⟨B0, d0, B2, d2, B1, d1, ?_, ?_, ?_, ?_⟩, ?_⟩
  · rw [e0, e1, e2, l0, hls.2.1]; simp
  · rw [← l0]; exact hi0
  · simpa using hi2
  · rw [← hls.2.1]; exact hi1
  · rw [hW]
    exact ((st.below.setCell (Nat.le_refl _) _).setCell (Nat.le_refl _) _).setCell (Nat.le_refl _) _
end
end Go.Proofs.Ytpkpdjekoghkcaa
