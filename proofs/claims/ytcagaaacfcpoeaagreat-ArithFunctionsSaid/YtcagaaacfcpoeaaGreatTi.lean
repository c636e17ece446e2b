/-
  The state while a term is built from another, node by node; the plain map on terms.
-/
import Derived.Test.YtcagaaacfcpoeaaGreatTh
import Derived.OwnWalk
namespace Go.Proofs.YtcagaaacfcpoeaaGreat
open Go.RowKit

/-- each node's number is replaced -/
def mapT (f : Int → Int → Int) : Tm → Tm
  | .mk k n s l => .mk k (f k n) s (go l)
where go : List Tm → List Tm
  | [] => []
  | x :: r => mapT f x :: go r
theorem mapT_go (f : Int → Int → Int) (l : List Tm) : mapT.go f l = l.map (mapT f) := by
  induction l with
  | nil => rfl
  | cons x r ih => simp [mapT.go, ih]
theorem mapT_eq (f : Int → Int → Int) (t : Tm) : mapT f t = .mk t.kind (f t.kind t.n) t.name (t.args.map (mapT f)) := by
  cases t
  simp [mapT, mapT_go, Tm.kind, Tm.n, Tm.name, Tm.args]

theorem args_le (t : Tm) : t.args.length ≤ cnt t := by
  have h : ∀ l : List Tm, l.length ≤ cnt.go l := fun l => by
    induction l with
    | nil => simp [cnt.go]
    | cons x r ih => simp only [List.length_cons, cnt.go]; have := cnt_pos x; omega
  have := h t.args
  rw [cnt_eq]
  omega

/-- what stands while the arguments are made: the term's box, the result's, the new term's -/
structure Cs (w : World) (t : Tm) (A : Option Addr) (c : Nat) (f : Int → Int → Int) (k : Nat) (v : Value) (rs : List Tr) (wr : World) : Prop where
  below : Below w.heap.size w wr
  box : Blk wr w.heap.size 24 #[.int .i64 t.kind, .int .i64 t.n, .string t.name, .slice A t.args.length c]
  res : Blk wr (w.heap.size + 1) 24 #[.int .i64 0, .int .i64 0, .string .empty, .slice none 0 0]
  cb : Blk wr (w.heap.size + 2) 24 #[.int .i64 t.kind, .int .i64 (f t.kind t.n), .string t.name, v]
  row : Mk wr (w.heap.size + 3) v rs
  len : rs.length = k
  map : rs.map (·.1) = (t.args.take k).map (mapT f)

theorem Cs.init {w : World} {t : Tm} {A : Option Addr} {c : Nat} {f : Int → Int → Int} {n' : Int} (hn : n' = f t.kind t.n) :
    Cs w t A c f 0 (.slice none 0 0) [] (((w.alloc (t.o A c)).alloc (.cells #[.int .i64 0, .int .i64 0, .string .empty, .slice none 0 0] 24)).alloc (.cells #[.int .i64 t.kind, .int .i64 n', .string t.name, .slice none 0 0] 24)) := by
  subst hn
  refine ⟨((bAlloc _ _).alloc (by simp) _).alloc (by simp; omega) _, ((Blk.new w 24 _).alloc _).alloc _, ?_, ?_, Mk.nil _ _, rfl, by simp⟩
  · have h := (Blk.new (w.alloc (t.o A c)) 24 #[.int .i64 0, .int .i64 0, .string .empty, .slice none 0 0]).alloc (.cells #[.int .i64 t.kind, .int .i64 (f t.kind t.n), .string t.name, .slice none 0 0] 24)
    rwa [World.size_alloc] at h
  · have h := Blk.new ((w.alloc (t.o A c)).alloc (.cells #[.int .i64 0, .int .i64 0, .string .empty, .slice none 0 0] 24)) 24 #[.int .i64 t.kind, .int .i64 (f t.kind t.n), .string t.name, .slice none 0 0]
    rwa [World.size_alloc, World.size_alloc] at h
theorem Cs.next {w wr w2 w3 : World} {t x : Tm} {A : Option Addr} {c k : Nat} {f : Int → Int → Int} {v v' : Value} {rs rs4 : List Tr} (h : Cs w t A c f k v rs wr) (hx : t.args[k]? = some x) {o : Obj} {A4 : Option Addr} {c4 : Nat}
    (hb : Below wr.heap.size wr w2) (hm : Mk w2 wr.heap.size (.slice A4 rs4.length c4) rs4) (hrs : rs4.map (·.1) = x.args.map (mapT f)) (hl4 : rs4.length ≤ 281474976710656)
    (ho : w3.ownsRow (w.heap.size + 3) 24 4 v' (rs.length + 1) (tmCs rs ++ [.int .i64 x.kind, .int .i64 (f x.kind x.n), .string x.name, .slice A4 rs4.length c4])) (hg : (w2.alloc o).grownBy w3 v.ownBlock)
    (hat : v'.ownBlock = v.ownBlock ∨ v'.ownBlock = some (w2.alloc o).heap.size) :
    Cs w t A c f (k + 1) v' (rs ++ [(mapT f x, A4, c4)]) (w3.setCell ⟨w.heap.size + 2, 3, none⟩ v') := by
  have zc := h.cb.lt
  have hlt : ∀ g, v.ownBlock = some g → w.heap.size + 3 ≤ g := fun g e => (h.row.own.lt g e).1
  have hne : ∀ b, b < w.heap.size + 3 → v.ownBlock ≠ some b := fun b hb e => by have := hlt b e; omega
  have hlen4 : rs4.length = (mapT f x).args.length := by
    have := congrArg List.length hrs
    rw [mapT_eq]
    simpa [Tm.args] using this
  have hr4 : ArgsAt w2 (fun b => wr.heap.size ≤ b ∧ b < w2.heap.size) A4 (mapT f x).args := by
    have := hm.read hl4
    rw [hrs] at this
    rw [mapT_eq]
    exact this
  have hM := h.row.app (w2 := w2) (w3 := w3) (v' := v') (r := (mapT f x, A4, c4)) (o := o) hb hr4 (by omega) (by rw [show Tr.cs (mapT f x, A4, c4) = [.int .i64 x.kind, .int .i64 (f x.kind x.n), .string x.name, .slice A4 rs4.length c4] by rw [hlen4]; simp only [Tr.cs]; rw [mapT_eq]; rfl]; exact ho) hg hat
  refine ⟨(bGrown ((bNext h.below hb).alloc (by have := h.below.size; have := hb.size; omega) o) (((own_below h.row.own hb).alloc o)) hg (by have := h.below.size; have := hb.size; simp; omega) (by omega)).setCell (p := ⟨w.heap.size + 2, 3, none⟩) (by simp) _, ?_, ?_, ?_, ?_, ?_, ?_⟩
  · exact (((h.box.below hb (by omega)).alloc o).grown hg (hne _ (by omega))).far (by simp) _
  · exact (((h.res.below hb (by omega)).alloc o).grown hg (hne _ (by omega))).far (by simp) _
  · have := (((h.cb.below hb (by omega)).alloc o).grown hg (hne _ (by omega))).set_ 3 v'
    simpa using this
  · exact hM.stay (fun b hb3 _ => heap_setCell_other _ _ _ _ (by simp; omega)) (by simp [World.setCell])
  · simp [h.len]
  · rw [List.map_append, h.map, List.take_add_one, hx]
    simp
end Go.Proofs.YtcagaaacfcpoeaaGreat
