/-
  The calls on stacks of one's own (OwnP): what each leaves.
-/
import Derived.Test.YtpkpffnabcgcbaaFt
import Derived.Test.YtpkpffnabcgcbaaFz
namespace Go.Proofs.Ytpkpffnabcgcbaa
open Go.RowKit

/-- stacks behind a pointer, all of them at B and beyond -/
def OwnP (w : World) (B p : Nat) (s : St) : Prop := ∃ ve vc ys cs, Stk w B p s ve vc ys cs
def RetO (B p : Nat) (v : Value) (s : St) (w : World) (e : Ending) (w' : World) : Prop := e = .returned v ∧ OwnP w' B p s ∧ Below B w w'
section
variable {w w' : World} {B p : Nat} {s s' : St} {ve vc : Value} {ys : List Value} {cs : List (Value × Value)}
theorem Stk.foot_ge (h : Stk w B p s ve vc ys cs) : ∀ g ∈ foot p ve vc ys cs, B ≤ g := by
  intro g hg
  rcases List.mem_cons.1 hg with rfl | hg
  · exact h.low
  · obtain ⟨v, hv, e⟩ := List.mem_filterMap.1 hg
    simp only [List.cons_append, List.mem_cons, List.mem_append] at hv
    rcases hv with rfl | rfl | ((hv | hv) | hv)
    · exact (h.envs.lt g e).1
    · exact (h.chs.lt g e).1
    all_goals
      obtain ⟨t, size, n, xs, h1, -, -⟩ := h.typed (v := v) (by simp only [List.cons_append, List.mem_cons, List.mem_append]; simp [hv])
      exact (h1.lt g e).1
theorem Stk.keeps (h : Stk w B p s ve vc ys cs) (hk : Kept (foot p ve vc ys cs) w w') : Below B w w' :=
  ⟨hk.os, hk.tape, hk.output, hk.size, fun g hg => hk.block g (Nat.lt_of_lt_of_le hg (Nat.le_of_lt (Nat.lt_of_le_of_lt h.low h.box.lt))) fun hf => by have := h.foot_ge g hf; omega⟩
theorem Stk.ret {v : Value} {e : Ending} (h : Stk w B p s ve vc ys cs) (hr : RetP B p (foot p ve vc ys cs) v s' w e w') : RetO B p v s' w e w' := by
  obtain ⟨rfl, ⟨ve', vc', ys', cs', h1, -⟩, hk⟩ := hr
  exact ⟨rfl, ⟨_, _, _, _, h1⟩, h.keeps hk⟩
theorem OwnP.next (h : OwnP w B p s) (hb : Below w.heap.size w w') : OwnP w' B p s := by
  obtain ⟨ve, vc, ys, cs, h⟩ := h
  exact ⟨_, _, _, _, h.next hb⟩
end
section
variable {B p : Nat} {s : St}
theorem alloc_own (n id pc : Int) (w : World) (h : OwnP w B p s) (hz : Sized s) :
    Calls Try.prog 27 #[.pointer (some ⟨p, 0, none⟩), .int .i64 n, .int .i64 id, .int .i64 pc] w (RetO B p (.int .i64 (errOf (allocV s n id pc))) (stOf s (allocV s n id pc)) w) := by
  obtain ⟨ve, vc, ys, cs, h⟩ := h
  exact (alloc_any n id pc w h hz.envs hz.chs hz.e).mono fun e w' hr => h.ret hr
theorem free_own (w : World) (h : OwnP w B p s) (hz : Sized s) :
    Calls Try.prog 29 #[.pointer (some ⟨p, 0, none⟩)] w (RetO B p (.tuple #[.int .i64 (frI (freeV s)), .int .i64 (frP (freeV s)), .int .i64 (errOf (freeV s))]) (freeS s (freeV s)) w) := by
  obtain ⟨ve, vc, ys, cs, h⟩ := h
  exact (free_any w h hz.envs hz.chs).mono fun e w' hr => h.ret (freeT_eq _ ▸ hr)
theorem trim_own (n : Int) (w : World) (h : OwnP w B p s) (hz : Sized s) :
    Calls Try.prog 28 #[.pointer (some ⟨p, 0, none⟩), .int .i64 n] w (RetO B p (.int .i64 (errOf (trimV s n))) (stOf s (trimV s n)) w) := by
  obtain ⟨ve, vc, ys, cs, h⟩ := h
  exact (trim_any n w h hz.envs hz.chs hz.y).mono fun e w' hr => h.ret hr
theorem set_own (n : Int) (c : Cl) (w : World) (h : OwnP w B p s) (hz : Sized s) :
    Calls Try.prog 20 #[.pointer (some ⟨p, 0, none⟩), .int .i64 n, c.v] w (RetO B p (.int .i64 (errOf (setV s n c))) (stOf s (setV s n c)) w) := by
  obtain ⟨ve, vc, ys, cs, h⟩ := h
  exact (set_any n c w h hz.envs hz.chs hz.y).mono fun e w' hr => h.ret hr
theorem cut_own (n : Int) (w : World) (h : OwnP w B p s) (hz : Sized s) :
    Calls Try.prog 13 #[.pointer (some ⟨p, 0, none⟩), .int .i64 n] w (RetO B p (.int .i64 (errOf (cutV s n))) (stOf s (cutV s n)) w) := by
  obtain ⟨ve, vc, ys, cs, h⟩ := h
  exact (cut_any n w h hz.envs hz.chs).mono fun e w' hr => h.ret hr
theorem push_own {x : Ch} {Aa Ab : Option Addr} {ca cb : Nat} (w : World) (h : OwnP w B p s) (hz : Sized s) (hca : CapOk Aa x.args.length ca) (hra : RowIn w Aa (cCs x.args)) (hla : x.args.length ≤ 8796093022208) (hcb : CapOk Ab x.alts.length cb) (hrb : RowIn w Ab (iCs x.alts)) (hlb : x.alts.length ≤ 17592186044416) :
    Calls Try.prog 11 #[.pointer (some ⟨p, 0, none⟩), chV x (.slice Aa x.args.length ca, .slice Ab x.alts.length cb)] w (RetO B p (.int .i64 (errOf (pushV s x))) (stOf s (pushV s x)) w) := by
  obtain ⟨ve, vc, ys, cs, h⟩ := h
  exact (push_any w h hz.chs hca hra hla hcb hrb hlb).mono fun e w' hr => h.ret hr
/-- a choice point that comes back, with its rows -/
def RetC (B p : Nat) (x : Ch) (er : Int) (s : St) (w : World) (e : Ending) (w' : World) : Prop := ∃ A c A' c', RetO B p (.tuple #[chV x (.slice A x.args.length c, .slice A' x.alts.length c'), .int .i64 er]) s w e w' ∧ CellsAt w' A x.args ∧ IntsAt w' A' x.alts
theorem pop_own (w : World) (h : OwnP w B p s) (hz : Sized s) :
    Calls Try.prog 14 #[.pointer (some ⟨p, 0, none⟩)] w (RetC B p (popC (popR s)) (errOf (popR s)) (popS s (popR s)) w) := by
  obtain ⟨ve, vc, ys, cs, h⟩ := h
  rcases hch : s.chs.getLast? with _ | c
  · have hnil : s.chs = [] := List.getLast?_eq_none_iff.1 hch
    have hp : popR s = .error 5 := by unfold popR; rw [hch]
    rw [hp]
    exact (pop_no w h hnil).mono fun e w' hr => ⟨none, 0, none, 0, h.ret hr, fun hl => absurd hl (Nat.lt_irrefl _), fun hl => absurd hl (Nat.lt_irrefl _)⟩
  · have hne : s.chs ≠ [] := fun e => by rw [e] at hch; cases hch
    have hpos := List.length_pos_iff.2 hne
    obtain ⟨m, hm⟩ : ∃ m, s.chs.length = m + 1 := ⟨s.chs.length - 1, by omega⟩
    have hx : s.chs[m]? = some c := by rw [List.getLast?_eq_getElem?, hm, Nat.add_sub_cancel] at hch; exact hch
    have hp : popR s = .ok (popV s m c, c) := by unfold popR; rw [hch]; simp only [hm, Nat.add_sub_cancel]
    rw [hp]
    obtain ⟨v, hv⟩ : ∃ v, cs[m]? = some v := ⟨_, List.getElem?_eq_getElem (by rw [h.clen, hm]; omega)⟩
    refine (pop_any w h hz.envs hz.chs hm hx hv).mono fun e w' hr => ?_
    obtain ⟨hr, h1, h2⟩ := hr
    obtain ⟨va, vb⟩ := v
    obtain ⟨A1, c1, e1, -⟩ := own_form h1
    obtain ⟨A2, c2, e2, -⟩ := own_form h2
    have e1 : va = _ := e1
    have e2 : vb = _ := e2
    subst e1 e2
    exact ⟨A1, c1, A2, c2, h.ret hr, own_cellsAt h1, own_intsAt h2⟩
def RetD (B p : Nat) (o : Ov) (s : St) (w : World) (e : Ending) (w' : World) : Prop := ∃ oc, RetO B p (Ov.v o oc) s w e w'
theorem do_own {x : Ch} {cl : Cl} {Aa Ab : Option Addr} {ca cb : Nat} (what n id pc : Int) (w : World) (h : OwnP w B p s) (hz : Sized s)
    (hca : CapOk Aa x.args.length ca) (hra : RowIn w Aa (cCs x.args)) (hla : x.args.length ≤ 8796093022208) (hcb : CapOk Ab x.alts.length cb) (hrb : RowIn w Ab (iCs x.alts)) (hlb : x.alts.length ≤ 17592186044416) :
    Calls Try.prog 12 #[.pointer (some ⟨p, 0, none⟩), (Sp.v ⟨what, n, id, pc, cl, x⟩ (.slice Aa x.args.length ca) (.slice Ab x.alts.length cb))] w (RetD B p (doV s ⟨what, n, id, pc, cl, x⟩).2 (doV s ⟨what, n, id, pc, cl, x⟩).1 w) := by
  obtain ⟨ve, vc, ys, cs, h⟩ := h
  exact (do_any what n id pc w h hz hca hra hla hcb hrb hlb).mono fun e w' ⟨oc, hr⟩ => ⟨oc, h.ret hr⟩
end
end Go.Proofs.Ytpkpffnabcgcbaa
