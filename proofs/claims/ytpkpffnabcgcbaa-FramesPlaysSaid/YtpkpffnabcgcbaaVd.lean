/-
  Memory for the law FramesViews: boxes of many cells; views, rows of views that lie away from the stacks.
-/
import Derived.Test.YtpkpffnabcgcbaaVb
import Derived.Test.YtpkpffnabcgcbaaVc
import Derived.Deep.MidRow
namespace Go.Proofs.Ytpkpffnabcgcbaa
open Go.RowKit

theorem Upd.setCells {p : Nat} : ∀ (vs : List Value) {w w' : World} (_ : Upd p w w') (o : Nat), Upd p w (w'.setCells p o vs)
  | [], _, _, h, _ => h
  | v :: r, _, _, h, o => by
    rw [World.setCells]
    exact Upd.setCells r (h.set o v) (o + 1)
/-- a new variable into which cells are stored -/
theorem box_new (w : World) (t : TypeId) (zs cs : List Value) (hl : cs.length = zs.length) :
    ((w.alloc (.cells zs.toArray t)).setCells w.heap.size 0 cs).rangeAt w.heap.size 0 cs ∧ Below w.heap.size w ((w.alloc (.cells zs.toArray t)).setCells w.heap.size 0 cs) ∧ ((w.alloc (.cells zs.toArray t)).setCells w.heap.size 0 cs).heap.size = w.heap.size + 1 ∧
      (w.alloc (.cells zs.toArray t)).there w.heap.size 0 cs.length := by
  have hk := Blk.new w t zs.toArray
  have ht : (w.alloc (.cells zs.toArray t)).there w.heap.size 0 cs.length := fun j hj => by
    rw [Nat.zero_add]
    refine ⟨?_, hk.frozen j⟩
    have h1 : zs.toArray[j]? = some zs[j] := by
      rw [List.getElem?_toArray]
      exact List.getElem?_eq_getElem (by omega)
    rw [hk.cell j, h1]
    rfl
  have hu := Upd.setCells cs (Upd.refl w.heap.size (w.alloc (.cells zs.toArray t))) 0
  refine ⟨World.rangeAt_setCells_same _ _ _ _ ht, hu.below (bAlloc w _) (Nat.le_refl _), ?_, ht⟩
  rw [hu.size]
  simp
theorem range_next {w w' : World} {b o : Nat} {cs : List Value} (h : w.rangeAt b o cs) {B : Nat} (hb : Below B w w') (hlt : b < B) : w'.rangeAt b o cs := fun j v hv => (hb.cell (p := ⟨b, _, none⟩) hlt).trans (h j v hv)
theorem range_upd {w w' : World} {b o q : Nat} {cs : List Value} (h : w.rangeAt b o cs) (hb : Upd q w w') (hlt : b ≠ q) : w'.rangeAt b o cs := fun j v hv => by
  rw [← h j v hv]
  unfold World.cell?
  rw [hb.block b hlt]
section
variable {w w' : World} {B : Nat} {l : List En} {v : Value} {ys : List Value}
theorem RowE.at (h : RowE w B l v ys) : ∃ A c, v = .slice A l.length c ∧ EnvsAt w A l := by
  obtain ⟨A, c, rfl, -⟩ := own_form h.row
  refine ⟨A, c, rfl, fun hn => ?_⟩
  obtain ⟨g, cap, e⟩ := own_head h.row hn
  injection e with e1 _ e2
  subst e1 e2
  refine ⟨g, 0, rfl, (h.row.lt g rfl).2, fun i x hx => ?_⟩
  have hi := (List.getElem?_eq_some_iff.1 hx).1
  have hy : ys[i]? = some (ys[i]'(by rw [h.ylen]; exact hi)) := List.getElem?_eq_getElem _
  obtain ⟨r0, r1, r2, r3⟩ := eCs_at hx hy
  have hr := h.yrow i x _ hx hy
  obtain ⟨Ay, cy, e, hcy⟩ := own_form hr
  rw [e] at hr r3
  rw [Nat.zero_add]
  exact ⟨Ay, cy, own_cell h.row r0, own_cell h.row r1, own_cell h.row r2, own_cell h.row r3, hcy, own_cellsAt hr⟩
/-- the blocks of a view -/
theorem RowE.stayF (h : RowE w B l v ys) (hk : ∀ g ∈ blks (v :: ys), w'.heap[g]? = w.heap[g]?) : RowE w' B l v ys :=
  ⟨own_stay h.row fun g hg => hk g (List.mem_filterMap.2 ⟨v, by simp, hg⟩), h.ylen, fun i x u hx hu => own_stay (h.yrow i x u hx hu) fun g hg => hk g (List.mem_filterMap.2 ⟨u, by simp [List.mem_of_getElem? hu], hg⟩), h.nodup⟩
theorem RowE.lt (h : RowE w B l v ys) : ∀ g ∈ blks (v :: ys), B ≤ g ∧ g < w.heap.size := fun g hg => by
  obtain ⟨u, hu, e⟩ := List.mem_filterMap.1 hg
  rcases List.mem_cons.1 hu with rfl | hu
  · exact h.row.lt g e
  · exact h.y_lt g (List.mem_filterMap.2 ⟨u, hu, e⟩)
end
/-- rows of views that lie away from some blocks -/
def Push (w : World) (F : List Nat) (v : Value) (V : List (List En)) : Prop := ∃ vs, w.ownsRow 0 22 1 v V.length vs ∧ vs.length = V.length ∧ (∀ g, v.ownBlock = some g → g ∉ F) ∧
  ∀ (k : Nat) (l : List En) (u : Value), V[k]? = some l → vs[k]? = some u → ∃ ys, RowE w 0 l u ys ∧ ∀ g ∈ blks (u :: ys), g ∉ F
theorem Push.lt {w : World} {F : List Nat} {v : Value} {V : List (List En)} (h : Push w F v V) : ∀ g, v.ownBlock = some g → g < w.heap.size := by
  obtain ⟨vs, h1, -, -, -⟩ := h
  exact fun g hg => (h1.lt g hg).2
/-- they stay where all else stays -/
theorem Push.stay {w w' : World} {F F' : List Nat} {v : Value} {V : List (List En)} (h : Push w F v V) (hk : ∀ g, g < w.heap.size → g ∉ F → w'.heap[g]? = w.heap[g]?) (hF : ∀ g, g < w.heap.size → g ∉ F → g ∉ F') : Push w' F' v V := by
  obtain ⟨vs, h1, h2, h3, h4⟩ := h
  refine ⟨vs, own_stay h1 fun g hg => hk g (h1.lt g hg).2 (h3 g hg), h2, fun g hg => hF g (h1.lt g hg).2 (h3 g hg), fun k l u hl hu => ?_⟩
  obtain ⟨ys, h5, h6⟩ := h4 k l u hl hu
  exact ⟨ys, h5.stayF fun g hg => hk g (h5.lt g hg).2 (h6 g hg), fun g hg => hF g (h5.lt g hg).2 (h6 g hg)⟩
theorem Push.nil (w : World) (F : List Nat) : Push w F (.slice none 0 0) [] := ⟨[], World.ownsRow_nil _ _ _ _, rfl, (fun g hg => by cases hg), (fun k l u hl => by simp at hl)⟩
/-- the last ones are dropped -/
theorem Push.cut {w : World} {F : List Nat} {A : Option Addr} {c : Nat} {V : List (List En)} (h : Push w F (.slice A V.length c) V) {m : Nat} (hm : m ≤ V.length) : Push w F (.slice A m c) (V.take m) := by
  obtain ⟨vs, h1, h2, h3, h4⟩ := h
  have h5 := own_cut h1 hm
  rw [Nat.mul_one] at h5
  refine ⟨vs.take m, ?_, by rw [List.length_take, List.length_take, h2], fun g hg => h3 g (by cases A <;> exact hg), fun k l u hl hu => ?_⟩
  · rw [List.length_take, Nat.min_eq_left hm]
    exact h5
  · rw [List.getElem?_take] at hl hu
    split at hl
    · rename_i hk
      rw [if_pos hk] at hu
      exact h4 k l u hl hu
    · cases hl
theorem Push.form {w : World} {F : List Nat} {v : Value} {V : List (List En)} (h : Push w F v V) : ∃ A c, v = .slice A V.length c := by
  obtain ⟨vs, h1, -, -, -⟩ := h
  obtain ⟨A, c, e, -⟩ := own_form h1
  exact ⟨A, c, e⟩
/-- the last one -/
theorem Push.last {w : World} {F : List Nat} {A : Option Addr} {c n : Nat} {V : List (List En)} (h : Push w F (.slice A V.length c) V) (hn : V.length = n + 1) {l : List En} (hl : V[n]? = some l) :
    ∃ g D d, A = some ⟨g, 0, none⟩ ∧ w.cell? ⟨g, n, none⟩ = some (.slice D l.length d) ∧ EnvsAt w D l := by
  obtain ⟨vs, h1, h2, h3, h4⟩ := h
  obtain ⟨g, cap, e⟩ := own_head h1 (by omega)
  injection e with e1 _ e2
  subst e1 e2
  have hv : vs[n]? = some (vs[n]'(by omega)) := List.getElem?_eq_getElem _
  obtain ⟨ys, h5, -⟩ := h4 n l _ hl hv
  obtain ⟨D, d, e, h6⟩ := h5.at
  exact ⟨g, D, d, rfl, by rw [own_cell h1 hv, e], h6⟩
/-- the views that were pushed are those of the last choice points -/
def PInv (p : St) (V : List (List En)) : Prop := V.length ≤ p.chs.length ∧ ∀ k l, V[k]? = some l → ∃ c, p.chs[p.chs.length - V.length + k]? = some c ∧ l = viewA p.envs c.env
theorem PInv.nil (p : St) : PInv p [] := ⟨Nat.zero_le _, fun k l h => by simp at h⟩
/-- a call that changes no choice points -/
theorem PInv.same {p : St} {V : List (List En)} (g : Good p) (h : PInv p V) (x : Sp) (h6 : x.what ≠ 6) (h7 : x.what ≠ 7) (hc : (doV p x).1.chs.length = p.chs.length) : PInv (doV p x).1 V := by
  refine ⟨by rw [hc]; exact h.1, fun k l hl => ?_⟩
  obtain ⟨c, h1, h2⟩ := h.2 k l hl
  obtain ⟨h3, h4⟩ := view_kept g h1 x (fun e => absurd e h6) (fun e => absurd e h7)
  rw [hc]
  exact ⟨c, h3, by rw [h4]; exact h2⟩
theorem PInv.push {p : St} {V : List (List En)} (_ : Good p) (h : PInv p V) (x : Sp) (h5 : x.what = 5) (he : (doV p x).2.e = 0) : PInv (doV p x).1 (V ++ [viewV p]) ∧ (doV p x).1.chs.length = p.chs.length + 1 := by
  have e1 : (doV p x).1 = stOf p (pushV p x.ch) := by
    unfold doV
    rw [if_neg (by omega), if_neg (by omega), if_neg (by omega), if_neg (by omega), if_neg (by omega), if_pos h5]
  have e2 : (doV p x).2.e = errOf (pushV p x.ch) := by
    unfold doV
    rw [if_neg (by omega), if_neg (by omega), if_neg (by omega), if_neg (by omega), if_neg (by omega), if_pos h5]
  rw [e2] at he
  rw [e1]
  unfold pushV at he ⊢
  split
  · rename_i hf; rw [if_pos hf] at he; cases he
  · have hlen : (p.chs ++ [({ x.ch with env := p.e, envs := max p.e (protV p) } : Ch)]).length = p.chs.length + 1 := by rw [List.length_append]; rfl
    refine ⟨⟨?_, fun k l hl => ?_⟩, hlen⟩
    · show (V ++ [viewV p]).length ≤ (p.chs ++ [_]).length
      rw [hlen, List.length_append]
      have := h.1
      simpa using this
    · show ∃ c : Ch, (p.chs ++ [({ x.ch with env := p.e, envs := max p.e (protV p) } : Ch)])[(p.chs ++ [({ x.ch with env := p.e, envs := max p.e (protV p) } : Ch)]).length - (V ++ [viewV p]).length + k]? = some c ∧ l = viewA p.envs c.env
      have hVl : (V ++ [viewV p]).length = V.length + 1 := by rw [List.length_append]; rfl
      have h1 := h.1
      rw [hlen, hVl, show p.chs.length + 1 - (V.length + 1) = p.chs.length - V.length by omega]
      rcases Nat.lt_or_ge k V.length with hk | hk
      · rw [List.getElem?_append_left hk] at hl
        obtain ⟨c, h2, h3⟩ := h.2 k l hl
        exact ⟨c, by rw [List.getElem?_append_left (by omega)]; exact h2, h3⟩
      · rw [List.getElem?_append_right hk] at hl
        have hk0 : k - V.length = 0 := by
          have := (List.getElem?_eq_some_iff.1 hl).1
          simp at this
          omega
        rw [hk0] at hl
        simp at hl
        refine ⟨_, by rw [List.getElem?_append_right (by omega), show p.chs.length - V.length + k - p.chs.length = 0 by omega]; rfl, ?_⟩
        exact hl.symm
/-- the choice points from a number on are cut -/
theorem PInv.cut {p : St} {V : List (List En)} (g : Good p) (h : PInv p V) (x : Sp) {m : Nat} (hm : m ≤ p.chs.length) (hc : (doV p x).1.chs = p.chs.take m) (h6 : x.what = 6 → m < p.chs.length) (h7 : x.what = 7 → (m : Int) ≤ x.n) :
    PInv (doV p x).1 (V.take (V.length - (p.chs.length - m))) := by
  have hl : (doV p x).1.chs.length = m := by rw [hc, List.length_take]; omega
  have h1 := h.1
  have hVl : (V.take (V.length - (p.chs.length - m))).length = V.length - (p.chs.length - m) := by rw [List.length_take]; omega
  refine ⟨by rw [hl, hVl]; omega, fun k l hk => ?_⟩
  rw [List.getElem?_take] at hk
  split at hk
  · rename_i hkl
    obtain ⟨c, h2, h3⟩ := h.2 k l hk
    have hi := (List.getElem?_eq_some_iff.1 h2).1
    obtain ⟨h4, h5⟩ := view_kept g h2 x (fun e => by have := h6 e; omega) (fun e => by have := h7 e; omega)
    refine ⟨c, ?_, by rw [h5]; exact h3⟩
    rw [hl, hVl, show m - (V.length - (p.chs.length - m)) + k = p.chs.length - V.length + k by omega]
    exact h4
  · cases hk
end Go.Proofs.Ytpkpffnabcgcbaa
