/-
  The walk of the law FramesViews.
-/
import Derived.Test.YtpkpffnabcgcbaaVd
import Derived.Test.YtpkpffnabcgcbaaHa
import Derived.Test.YtpkpffnabcgcbaaVg
namespace Go.Proofs.Ytpkpffnabcgcbaa
open Go.RowKit

/-- a block keeps its type -/
theorem setCells_ty {b t : Nat} : ∀ (vs : List Value) (o : Nat) (w : World) (cs : Array Value), Blk w b t cs → ∃ cs', Blk (w.setCells b o vs) b t cs'
  | [], _, _, cs, h => ⟨cs, h⟩
  | v :: r, o, w, cs, h => by
    rw [World.setCells]
    exact setCells_ty r (o + 1) _ _ (h.set_ o v)
/-- no block of the stacks is of a call's type -/
theorem Stk.foot_ty {w : World} {B p g : Nat} {s : St} {ve vc : Value} {ys : List Value} {cs : List (Value × Value)} (h : Stk w B p s ve vc ys cs) {b : Array Value} (hg : Blk w g 40 b) : g ∉ foot p ve vc ys cs := by
  have key : ∀ {t size n : Nat} {v : Value} {xs : List Value}, w.ownsRow B t size v n xs → t ≠ 40 → v.ownBlock = some g → False := fun h1 ht e => by
    obtain ⟨c1, h2⟩ := own_ty h1 e
    have h3 : w.heap[g]? = some (.cells b 40 (0, 0)) := hg
    rw [h2] at h3
    injection h3 with h3
    injection h3 with _ h3 _
    exact ht h3
  intro hm
  rcases List.mem_cons.1 hm with rfl | hm
  · have h3 : w.heap[g]? = some (.cells b 40 (0, 0)) := hg
    have h4 : w.heap[g]? = some (.cells _ 25 (0, 0)) := h.box
    rw [h4] at h3
    injection h3 with h3
    injection h3 with _ h3 _
    exact absurd h3 (by decide)
  · obtain ⟨v, hv, e⟩ := List.mem_filterMap.1 hm
    simp only [List.cons_append, List.mem_cons, List.mem_append] at hv
    rcases hv with rfl | rfl | ((hv | hv) | hv)
    · exact key h.envs (by decide) e
    · exact key h.chs (by decide) e
    · obtain ⟨i, hi⟩ := List.mem_iff_getElem?.1 hv
      have hl := (List.getElem?_eq_some_iff.1 hi).1
      exact key (h.yrow i _ v (List.getElem?_eq_getElem (by rw [← h.ylen]; exact hl)) hi) (by decide) e
    · obtain ⟨u, hu, rfl⟩ := List.mem_map.1 hv
      obtain ⟨i, hi⟩ := List.mem_iff_getElem?.1 hu
      have hl := (List.getElem?_eq_some_iff.1 hi).1
      exact key (h.crow i _ u (List.getElem?_eq_getElem (by rw [← h.clen]; exact hl)) hi).1 (by decide) e
    · obtain ⟨u, hu, rfl⟩ := List.mem_map.1 hv
      obtain ⟨i, hi⟩ := List.mem_iff_getElem?.1 hu
      have hl := (List.getElem?_eq_some_iff.1 hi).1
      exact key (h.crow i _ u (List.getElem?_eq_getElem (by rw [← h.clen]; exact hl)) hi).2 (by decide) e
/-- stacks behind a pointer, rows of views away from them -/
def VSt (w : World) (B q : Nat) (p : St) (v : Value) (V : List (List En)) : Prop := ∃ ve vc ys cs, Stk w B q p ve vc ys cs ∧ Push w (foot q ve vc ys cs) v V
/-- a view besides, away from both -/
def VW (w : World) (B q : Nat) (p : St) (v : Value) (V : List (List En)) (l : List En) (u : Value) (yw : List Value) : Prop := ∃ ve vc ys cs, Stk w B q p ve vc ys cs ∧ Push w (foot q ve vc ys cs ++ blks (u :: yw)) v V ∧ RowE w 0 l u yw ∧ ∀ g ∈ blks (u :: yw), g ∉ foot q ve vc ys cs
section
variable {w w' : World} {B q : Nat} {p p' : St} {v u r : Value} {V : List (List En)} {l : List En} {yw : List Value}
theorem VSt.next (h : VSt w B q p v V) (hb : Below w.heap.size w w') : VSt w' B q p v V := by
  obtain ⟨ve, vc, ys, cs, h1, h2⟩ := h
  exact ⟨ve, vc, ys, cs, h1.next hb, h2.stay (fun g hg _ => hb.block g hg) fun g _ hg => hg⟩
theorem VW.next (h : VW w B q p v V l u yw) (hb : Below w.heap.size w w') : VW w' B q p v V l u yw := by
  obtain ⟨ve, vc, ys, cs, h1, h2, h3, h4⟩ := h
  exact ⟨ve, vc, ys, cs, h1.next hb, h2.stay (fun g hg _ => hb.block g hg) fun g _ hg => hg, h3.next hb, h4⟩
theorem VW.st (h : VW w B q p v V l u yw) : VSt w B q p v V := by
  obtain ⟨ve, vc, ys, cs, h1, h2, h3, h4⟩ := h
  exact ⟨ve, vc, ys, cs, h1, h2.stay (fun g _ _ => rfl) fun g _ hg hf => hg (List.mem_append_left _ hf)⟩
theorem VSt.own (h : VSt w B q p v V) : OwnP w B q p := by
  obtain ⟨ve, vc, ys, cs, h1, -⟩ := h
  exact ⟨ve, vc, ys, cs, h1⟩
/-- a view is taken -/
theorem VSt.view (h : VSt w B q p v V) (hr : RowE w' w.heap.size l u yw) (hb : Below w.heap.size w w') : VW w' B q p v V l u yw := by
  obtain ⟨ve, vc, ys, cs, h1, h2⟩ := h
  have hlt := h1.foot_lt
  refine ⟨ve, vc, ys, cs, h1.next hb, h2.stay (fun g hg _ => hb.block g hg) (fun g hg hf hm => ?_), hr.base (Nat.zero_le _), fun g hg hf => ?_⟩
  · rcases List.mem_append.1 hm with hm | hm
    · exact hf hm
    · have := (hr.lt g hm).1
      omega
  · have h3 := (hr.lt g hg).1
    have h4 := hlt g hf
    omega
/-- a call on the stacks -/
theorem VW.call {e : Ending} {ve vc : Value} {ys : List Value} {cs : List (Value × Value)} (h1 : Stk w B q p ve vc ys cs) (h2 : Push w (foot q ve vc ys cs ++ blks (u :: yw)) v V) (h3 : RowE w 0 l u yw) (h4 : ∀ g ∈ blks (u :: yw), g ∉ foot q ve vc ys cs)
    (hr : RetP B q (foot q ve vc ys cs) r p' w e w') : VW w' B q p' v V l u yw ∧ Below B w w' ∧ ∀ g b, Blk w g 40 b → Blk w' g 40 b := by
  obtain ⟨rfl, ⟨ve', vc', ys', cs', h5, h6⟩, hk⟩ := hr
  have hn : ∀ g, g < w.heap.size → g ∉ foot q ve vc ys cs → g ∉ foot q ve' vc' ys' cs' := fun g hg hf hm => by
    rcases h6 g hm with h7 | h7
    · exact hf h7
    · omega
  refine ⟨⟨ve', vc', ys', cs', h5, h2.stay (fun g hg hf => hk.block g hg fun hm => hf (List.mem_append_left _ hm)) (fun g hg hf hm => ?_), h3.stayF fun g hg => hk.block g (h3.lt g hg).2 (h4 g hg), fun g hg => hn g (h3.lt g hg).2 (h4 g hg)⟩, h1.keeps hk, fun g b hb => (hk.block g hb.lt (h1.foot_ty hb)).trans hb⟩
  rcases List.mem_append.1 hm with hm | hm
  · exact hn g hg (fun hf' => hf (List.mem_append_left _ hf')) hm
  · exact hf (List.mem_append_right _ hm)
def RetW (B q : Nat) (p' : St) (o : Ov) (v : Value) (V : List (List En)) (l : List En) (u : Value) (yw : List Value) (w : World) (e : Ending) (w' : World) : Prop := ∃ C1 n1 c1 C2 n2 c2, e = .returned (Ov.v o (.slice C1 n1 c1, .slice C2 n2 c2)) ∧ VW w' B q p' v V l u yw ∧ Below B w w' ∧ ∀ g b, Blk w g 40 b → Blk w' g 40 b
end
theorem do_view {B q : Nat} {p : St} {v u : Value} {V : List (List En)} {l : List En} {yw : List Value} {x : Ch} {cl : Cl} {Aa Ab : Option Addr} {ca cb : Nat} (what n id pc : Int) (w : World) (h : VW w B q p v V l u yw) (hz : Sized p)
    (hcr : ChR w x Aa ca Ab cb) :
    Calls Try.prog 12 #[.pointer (some ⟨q, 0, none⟩), (Sp.v ⟨what, n, id, pc, cl, x⟩ (.slice Aa x.args.length ca) (.slice Ab x.alts.length cb))] w (RetW B q (doV p ⟨what, n, id, pc, cl, x⟩).1 (doV p ⟨what, n, id, pc, cl, x⟩).2 v V l u yw w) := by
  obtain ⟨ve, vc, ys, cs, h1, h2, h3, h4⟩ := h
  exact (do_anyS what n id pc w h1 hz hcr.1 hcr.2.2.2.2.1.row hcr.2.2.1 hcr.2.1 hcr.2.2.2.2.2.row hcr.2.2.2.1).mono fun e w' hr => by
    obtain ⟨C1, n1, c1, C2, n2, c2, hr⟩ := hr
    obtain ⟨h5, h6⟩ := VW.call h1 h2 h3 h4 hr
    exact ⟨C1, n1, c1, C2, n2, c2, hr.1, h5, h6⟩
theorem view_own {B q : Nat} {p : St} {v : Value} {V : List (List En)} (w : World) (h : VSt w B q p v V) (g : Good p) {A A1 : Option Addr} {c c1 : Nat} (hat : StAt w A c A1 c1 p) :
    Calls Try.prog 17 #[stV p A c A1 c1] w fun e w' => (∃ u yw, e = .returned u ∧ RowE w' w.heap.size (viewV p) u yw ∧ VW w' B q p v V (viewV p) u yw) ∧ Below w.heap.size w w' :=
  (view_any p w hat g).mono fun e w' hr => by
    obtain ⟨⟨u, yw, rfl, hr⟩, hb⟩ := hr
    exact ⟨⟨u, yw, rfl, hr, h.view hr hb⟩, hb⟩
end Go.Proofs.Ytpkpffnabcgcbaa
