/-
  The reference's numbers: what the walk holds, plain laws of it.
-/
import Derived.Test.YteffpeokialeiaaDk
import Derived.Test.YteffpeokialeiaaDh
import Derived.Test.YteffpeokialeiaaBg
import Derived.Laws.OwnMore
namespace Go.Proofs.Yteffpeokialeiaa
open Go.RowKit

theorem fold_drop {f : List Tm → Int → List Tm} {L : List Int} {j : Nat} {z : Int} (h : L[j]? = some z) (ts : List Tm) : (L.drop j).foldl f ts = (L.drop (j + 1)).foldl f (f ts z) := by
  obtain ⟨hj, e⟩ := List.getElem?_eq_some_iff.1 h
  rw [List.drop_eq_getElem_cons hj, List.foldl_cons, e]
theorem from_drop {la : Int → Nat} {base : Int} {l : List In} {k : Nat} {x : In} (h : l[k]? = some x) (ts : List Tm) : numFrom la base k (segOf (l.drop k)) ts = numFrom la base (k + 1) (segOf (l.drop (k + 1))) ((wrOf x).foldl (numStep la base k (wrOf x)) ts) := by
  obtain ⟨hj, e⟩ := List.getElem?_eq_some_iff.1 h
  rw [List.drop_eq_getElem_cons hj, e]; rfl
structure TsOk (base : Int) (ts : List Tm) (m : Nat) : Prop where
  len : ts.length ≤ m
  n : ∀ t ∈ ts, base < t.n ∧ t.n ≤ base + ts.length
theorem TsOk.nil (base : Int) : TsOk base [] 0 := ⟨Nat.le_refl _, fun _ h => by cases h⟩
theorem TsOk.more {base : Int} {ts : List Tm} {m m' : Nat} (h : TsOk base ts m) (hm : m ≤ m') : TsOk base ts m' := ⟨Nat.le_trans h.len hm, h.n⟩
theorem TsOk.snoc {base : Int} {ts : List Tm} {m : Nat} (h : TsOk base ts m) {t : Tm} (h1 : base < t.n) (h2 : t.n ≤ base + ts.length + 1) : TsOk base (ts ++ [t]) (m + 1) := by
  refine ⟨by have := h.len; simp; omega, fun u hu => ?_⟩
  rw [List.length_append]
  rcases List.mem_append.1 hu with hu | hu
  · have := h.n u hu; simp; omega
  · rw [List.mem_singleton.1 hu]; simp; omega
/-- which numbers are taken -/
def TkOk (base : Int) (k : Nat) (wr : List Int) (ts : List Tm) (bs : List Bool) : Prop := ∀ i : Nat, bs[i]? = some true ↔ ∃ t ∈ ts, t.used k wr = true ∧ t.n = base + i
theorem TkOk.start (base : Int) (k : Nat) (wr : List Int) (N : Nat) : TkOk base k wr [] (List.replicate N false) := fun i => by
  rw [List.getElem?_replicate]
  split <;> simp
theorem TkOk.no {base : Int} {k : Nat} {wr : List Int} {ts : List Tm} {bs : List Bool} (h : TkOk base k wr ts bs) {t : Tm} (hu : t.used k wr = false) : TkOk base k wr (ts ++ [t]) bs := fun i => by
  rw [h i]
  constructor
  · rintro ⟨u, hm, h2⟩; exact ⟨u, List.mem_append_left _ hm, h2⟩
  · rintro ⟨u, hm, h2⟩
    rcases List.mem_append.1 hm with hm | hm
    · exact ⟨u, hm, h2⟩
    · rw [List.mem_singleton.1 hm, hu] at h2; cases h2.1
theorem TkOk.yes {base : Int} {k : Nat} {wr : List Int} {ts : List Tm} {bs : List Bool} (h : TkOk base k wr ts bs) {t : Tm} (hu : t.used k wr = true) {q : Nat} (hq : t.n = base + q) (hl : q < bs.length) : TkOk base k wr (ts ++ [t]) (bs.set q true) := fun i => by
  rw [List.getElem?_set]
  by_cases e : q = i
  · subst e
    rw [if_pos rfl, if_pos hl]
    exact ⟨fun _ => ⟨t, by simp, hu, hq⟩, fun _ => rfl⟩
  · rw [if_neg e, h i]
    constructor
    · rintro ⟨u, hm, h2⟩; exact ⟨u, List.mem_append_left _ hm, h2⟩
    · rintro ⟨u, hm, h2⟩
      rcases List.mem_append.1 hm with hm | hm
      · exact ⟨u, hm, h2⟩
      · rw [List.mem_singleton.1 hm] at h2; have := h2.2; omega
theorem least_tk {base : Int} {k : Nat} {wr : List Int} {ts : List Tm} {bs : List Bool} (h : TkOk base k wr ts bs) {m : Nat} (hm : 1 ≤ m) (h1 : ∀ q : Nat, 1 ≤ q → q < m → bs[q]? = some true) (h2 : bs[m]? = some false) :
    least base ((ts.filter (Tm.used · k wr)).map Tm.n) = base + m := by
  refine least_eq base _ _ (by omega) (fun hmem => ?_) (fun y hy1 hy2 => ?_)
  · obtain ⟨t, ht, e⟩ := List.mem_map.1 hmem
    obtain ⟨ht1, ht2⟩ := List.mem_filter.1 ht
    have := (h m).2 ⟨t, ht1, ht2, e⟩
    rw [h2] at this; cases this
  · obtain ⟨q, hq⟩ : ∃ q : Nat, y = base + q := ⟨(y - base).toNat, by omega⟩
    obtain ⟨t, ht1, ht2, e⟩ := (h q).1 (h1 q (by omega) (by omega))
    exact List.mem_map.2 ⟨t, List.mem_filter.2 ⟨ht1, ht2⟩, by omega⟩
/-- what the walk holds: the map of last uses, the map of registers that were met (hs tells it), the temporaries -/
def NuAt (w wr : World) (gl gm : Nat) (lf : Int → Option Value) (base : Int) (v : Value) (ts : List Tm) (hs : Int → Bool) : Prop :=
  (MapI wr gl lf ∧ gl ≠ gm ∧ w.heap.size ≤ gm) ∧ (∃ M, MapI wr gm M ∧ ∀ y, base < y → M y = if hs y then some (.bool true) else none) ∧ wr.ownsRow w.heap.size 50 4 v ts.length (tCs ts) ∧ Below w.heap.size w wr
section
variable {w wr w2 : World} {gl gm : Nat} {lf : Int → Option Value} {base : Int} {v : Value} {ts : List Tm} {hs hs' : Int → Bool}
theorem NuAt.later (h : NuAt w wr gl gm lf base v ts hs) (hb : Below wr.heap.size wr w2) : NuAt w w2 gl gm lf base v ts hs := by
  obtain ⟨⟨h1, h2, h3⟩, ⟨M, h4, h5⟩, h6, h7⟩ := h
  exact ⟨⟨h1.next hb, h2, h3⟩, ⟨M, h4.next hb, h5⟩, own_next h6 hb, bNext h7 hb⟩
theorem NuAt.congr (h : NuAt w wr gl gm lf base v ts hs) (e : ∀ y, base < y → hs' y = hs y) : NuAt w wr gl gm lf base v ts hs' := by
  obtain ⟨h1, ⟨M, h4, h5⟩, h6, h7⟩ := h
  exact ⟨h1, ⟨M, h4, fun y hy => by rw [h5 y hy, e y hy]⟩, h6, h7⟩
theorem map_cells {g : Nat} {f : Int → Option Value} (h : MapI wr g f) {cs : Array Value} {t : TypeId} {r : Nat} (hb : wr.heap[r]? = some (.cells cs t (0, 0))) : r ≠ g := MapI.cells h hb
/-- a block of cells of another type is changed -/
theorem NuAt.far (h : NuAt w wr gl gm lf base v ts hs) {g : Nat} (hg : wr.grownBy w2 (some g)) (hr : w.heap.size ≤ g) {cs : Array Value} {t : TypeId} (hb : wr.heap[g]? = some (.cells cs t (0, 0))) (ht : t ≠ 50) : NuAt w w2 gl gm lf base v ts hs := by
  obtain ⟨⟨h1, h2, h3⟩, ⟨M, h4, h5⟩, h6, h7⟩ := h
  refine ⟨⟨h1.grown hg (fun e => ?_), h2, h3⟩, ⟨M, h4.grown hg (fun e => ?_), h5⟩, own_stay h6 (fun g' hg' => hg.block g' (own_lt h6 hg').2 (fun e => ?_)), h7.grown hg h7.size (fun g' e => ?_)⟩
  · injection e with e; exact map_cells h1 hb e
  · injection e with e; exact map_cells h4 hb e
  · injection e with e; subst e
    obtain ⟨cs', hc⟩ := own_ty h6 hg'
    rw [hb] at hc; injection hc with hc; injection hc with _ hc; exact ht hc
  · injection e with e; omega
/-- the temporaries are changed: a longer row -/
theorem NuAt.snoc (h : NuAt w wr gl gm lf base v ts hs) {v2 : Value} {ts2 : List Tm} (hg : wr.grownBy w2 v.ownBlock) (ho : w2.ownsRow w.heap.size 50 4 v2 ts2.length (tCs ts2)) : NuAt w w2 gl gm lf base v2 ts2 hs := by
  obtain ⟨⟨h1, h2, h3⟩, ⟨M, h4, h5⟩, h6, h7⟩ := h
  refine ⟨⟨h1.grown hg (fun e => ?_), h2, h3⟩, ⟨M, h4.grown hg (fun e => ?_), h5⟩, ho, h7.grown hg h7.size (fun g' e => (own_lt h6 e).1)⟩
  · obtain ⟨cs', hc⟩ := own_ty h6 e; exact map_cells h1 hc rfl
  · obtain ⟨cs', hc⟩ := own_ty h6 e; exact map_cells h4 hc rfl
/-- a row of another type stays where the temporaries, or a row of a third type, change -/
theorem own_far {e e' size size' n n' b b' : Nat} {v v' : Value} {xs xs' : List Value} (h : wr.ownsRow b e size v n xs) (h' : wr.ownsRow b' e' size' v' n' xs') (he : e ≠ e') (hg : wr.grownBy w2 v'.ownBlock) : w2.ownsRow b e size v n xs :=
  own_stay h fun g hgo => hg.block g (own_lt h hgo).2 fun e2 => by
    obtain ⟨cs, hc⟩ := own_ty h hgo
    obtain ⟨cs', hc'⟩ := own_ty h' e2.symm
    rw [hc] at hc'; injection hc' with hc'; injection hc' with _ hc'; exact he hc'
/-- a register is met -/
theorem NuAt.met (h : NuAt w wr gl gm lf base v ts hs) (z : Int) : ∃ w', (Instr.mapUpdate 57 (.map (some gm)) (.int .i64 z) (.bool true)).run Try.prog wr = .ok () w' ∧ 
    (∀ (e size n : Nat) (b : Nat) (v' : Value) (xs : List Value), wr.ownsRow b e size v' n xs → w'.ownsRow b e size v' n xs) ∧
    NuAt w w' gl gm lf base v ts (fun y => y == z || hs y) := by
  obtain ⟨⟨h1, h2, h3⟩, ⟨M, h4, h5⟩, h6, h7⟩ := h
  obtain ⟨w', hrun, hM, hg, _⟩ := h4.update under57 z (.bool true)
  have keep : ∀ (e size n : Nat) (b : Nat) (v' : Value) (xs : List Value), wr.ownsRow b e size v' n xs → w'.ownsRow b e size v' n xs := fun e size n b v' xs ho => own_stay ho (fun g hgo => hg.block g (own_lt ho hgo).2 (fun e => by
    injection e with e; subst e
    obtain ⟨cs, hc⟩ := own_ty ho hgo
    exact map_cells h4 hc rfl))
  refine ⟨w', hrun, keep, ⟨h1.grown hg (fun e => by injection e with e; exact h2 e.symm), h2, h3⟩, ⟨_, hM, fun y hy => ?_⟩, keep _ _ _ _ _ _ h6, h7.grown hg h7.size (fun g e => by injection e with e; omega)⟩
  rw [h5 y hy]
  by_cases e : y = z
  · simp [e]
  · simp [e]
end
theorem ints_cell {w : World} {B b off n : Nat} {l : List Int} (h : IntsAt w B (some ⟨b, off, none⟩) n l) {j : Nat} {z : Int} (hz : l[j]? = some z) : w.cell? ⟨b, off + j, none⟩ = some (.int .i64 z) ∧ b < B := by
  have hj : j < n := by have := (List.getElem?_eq_some_iff.1 hz).1; have := h.1.1; omega
  obtain ⟨b', off', z', e, hb, hz', hc⟩ := h.at hj
  injection e with e; injection e with e1 e2 _
  subst e1 e2
  rw [hz] at hz'; injection hz' with hz'
  subst hz'
  exact ⟨hc, hb⟩
/-- a temporary is appended -/
theorem wp_append_tm {w : World} {o : Oper} {a : Act} {K' : Act → World → Prop} {Q : Exit → Act → World → Prop} (s x : Operand)
    (ho : o.op = .call { callee := .builtin .append, args := #[s, x], argTypes := #[46, 46] }) (base : Nat) (v : Value) (xs : List Tm) (hs : a.eval s = v) (hown : w.ownsRow base 50 4 v xs.length (tCs xs))
    (g : Nat) (t : Tm) (hx : a.eval x = .slice (some ⟨g, 0, none⟩) 1 1) (hL : Blk w g 50 #[.int .i64 t.x, .int .i64 t.n, .int .i64 t.f, .int .i64 t.l]) (hn : xs.length ≤ 1000000) (hbase : base ≤ w.heap.size)
    (h : ∀ v' w', w'.ownsRow base 50 4 v' (xs ++ [t]).length (tCs (xs ++ [t])) → w.grownBy w' v.ownBlock → K' (a.put o.dst v') w') : o.wp Try.prog a w K' Q := by
  obtain ⟨i0, hi, hz0, hz1, hz2⟩ := info_parts info50
  refine wp_append_own w s x 46 ho base 50 i0 _ 4 32 Try.underlying46 hi hz0 hz1 hz2 rfl (by decide) v xs.length (tCs xs) hs hown ⟨g, 0, none⟩ 1 1 (tCs [t]) hx rfl (fun j u hu => ?_) (tCs_one _) (by unfold maxLen; omega) (by omega) hbase ?_
  · have e : (⟨g, 0, none⟩ : Addr).add j = ⟨g, j, none⟩ := by cases j <;> simp [Addr.add]
    rw [e, hL.cell j]
    simpa [tCs] using hu
  · intro v' w' h1 h2 _
    exact h v' w' (by rw [tCs_app, List.length_append]; exact h1) h2
end Go.Proofs.Yteffpeokialeiaa
