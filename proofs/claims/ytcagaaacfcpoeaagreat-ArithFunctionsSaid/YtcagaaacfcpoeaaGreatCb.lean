/-
  A term in which a function has replaced each variable: plain; the memory while it is made; maps that number variables.
-/
import Derived.Test.YtcagaaacfcpoeaaGreatCa
import Derived.Test.YtcagaaacfcpoeaaGreatTl
import Derived.MapKept
namespace Go.Proofs.YtcagaaacfcpoeaaGreat
open Go.RowKit

/-- variables are replaced from left to right; the list of those that have been seen -/
def apT (F : List Int → Int → Int) : Tm → List Int → Tm × List Int
  | .mk k n s a, l => if (k == 0) = true then (.mk 0 (F (if posI l n < 0 then l ++ [n] else l) n) { data := #[] } [], if posI l n < 0 then l ++ [n] else l) else (.mk k n s (go a l).1, (go a l).2)
where go : List Tm → List Int → List Tm × List Int
  | [], l => ([], l)
  | x :: r, l => ((apT F x l).1 :: (go r (apT F x l).2).1, (go r (apT F x l).2).2)
section
variable {F : List Int → Int → Int}
theorem apT_go_append (a b : List Tm) (l : List Int) : apT.go F (a ++ b) l = ((apT.go F a l).1 ++ (apT.go F b (apT.go F a l).2).1, (apT.go F b (apT.go F a l).2).2) := by
  induction a generalizing l with
  | nil => rfl
  | cons x r ih => simp [apT.go, ih]
theorem apT_go_next {a : List Tm} {i : Nat} {x : Tm} (h : a[i]? = some x) (l : List Int) : apT.go F (a.take (i + 1)) l = ((apT.go F (a.take i) l).1 ++ [(apT F x (apT.go F (a.take i) l).2).1], (apT F x (apT.go F (a.take i) l).2).2) := by
  rw [List.take_add_one, h, apT_go_append]
  rfl
theorem apT_var {t : Tm} (h : (t.kind == 0) = true) (l : List Int) : apT F t l = (.mk 0 (F (vars1 t l) t.n) { data := #[] } [], vars1 t l) := by
  cases t
  simp only [Tm.kind] at h
  simp only [apT, h, if_true, vars1, Tm.kind, Tm.n, true_and]
theorem apT_nv {t : Tm} (h : (t.kind == 0) = false) (l : List Int) : apT F t l = (.mk t.kind t.n t.name (apT.go F t.args l).1, (apT.go F t.args l).2) := by
  cases t
  simp only [Tm.kind] at h
  simp only [apT, h, Bool.false_eq_true, if_false, Tm.kind, Tm.n, Tm.name, Tm.args]
theorem apT_go_len (a : List Tm) (l : List Int) : (apT.go F a l).1.length = a.length := by
  induction a generalizing l with
  | nil => rfl
  | cons x r ih => simp [apT.go, ih]
/-- the list of the seen is the list of the variables -/
theorem apT_vars (N : Nat) : ∀ (t : Tm) (l : List Int), cnt t < N → okT t = true → (apT F t l).2 = varsT t l := by
  induction N with
  | zero => intro t l h; omega
  | succ N ih =>
    intro t l h hok
    have hgo : ∀ (a : List Tm) (l : List Int), cnt.go a < N → okT.go a = true → (apT.go F a l).2 = varsT.go a l := fun a => by
      induction a with
      | nil => intro l _ _; rfl
      | cons x r ihr =>
        intro l h h2
        simp only [cnt.go] at h
        simp only [okT.go, Bool.and_eq_true] at h2
        simp only [apT.go, varsT.go]
        rw [ih x l (by omega) h2.1]
        exact ihr _ (by omega) h2.2
    have h2 := cnt_eq t
    have hok2 := hok
    rw [okT_eq] at hok2
    simp only [Bool.and_eq_true] at hok2
    cases hk : t.kind == 0
    · rw [apT_nv hk, varsT_eq, show vars1 t l = l by simp [vars1, hk]]
      exact hgo t.args l (by omega) hok2.2
    · have ha : t.args = [] := by
        have h3 := hok2.1
        unfold nodeB at h3
        rw [if_pos hk] at h3
        simp at h3
        exact h3.2
      rw [apT_var hk, varsT_eq, ha]
      rfl
theorem varsT_le (N : Nat) : ∀ (t : Tm) (l : List Int), cnt t < N → ∃ m, varsT t l = l ++ m := by
  induction N with
  | zero => intro t l h; omega
  | succ N ih =>
    intro t l h
    have hgo : ∀ (a : List Tm) (l : List Int), cnt.go a < N → ∃ m, varsT.go a l = l ++ m := fun a => by
      induction a with
      | nil => intro l _; exact ⟨[], by simp [varsT.go]⟩
      | cons x r ihr =>
        intro l h
        simp only [cnt.go] at h
        obtain ⟨m1, h1⟩ := ih x l (by omega)
        obtain ⟨m2, h2⟩ := ihr (varsT x l) (by omega)
        exact ⟨m1 ++ m2, by simp only [varsT.go]; rw [h2, h1, List.append_assoc]⟩
    have h2 := cnt_eq t
    obtain ⟨m1, h1⟩ : ∃ m, vars1 t l = l ++ m := by
      unfold vars1
      split
      · exact ⟨_, rfl⟩
      · exact ⟨[], by simp⟩
    obtain ⟨m2, h3⟩ := hgo t.args (vars1 t l) (by omega)
    exact ⟨m1 ++ m2, by rw [varsT_eq, h3, h1, List.append_assoc]⟩
end
/-- all but one block is kept -/
structure KeptQ (q : Nat) (w w' : World) : Prop where
  os : w'.os = w.os
  tape : w'.tape = w.tape
  output : w'.output = w.output
  size : w.heap.size ≤ w'.heap.size
  block : ∀ g, g < w.heap.size → g ≠ q → w'.heap[g]? = w.heap[g]?
theorem KeptQ.of {q : Nat} {w w' : World} (h : Below w.heap.size w w') : KeptQ q w w' := ⟨h.os, h.tape, h.output, h.size, fun g hg _ => h.block g hg⟩
theorem KeptQ.trans {q : Nat} {w w1 w2 : World} (h : KeptQ q w w1) (k : KeptQ q w1 w2) : KeptQ q w w2 :=
  ⟨k.os.trans h.os, k.tape.trans h.tape, k.output.trans h.output, Nat.le_trans h.size k.size, fun g hg hq => (k.block g (Nat.lt_of_lt_of_le hg h.size) hq).trans (h.block g hg hq)⟩
theorem KeptQ.low {q B : Nat} {w w' : World} (h : KeptQ q w w') (hq : B ≤ q) (hB : B ≤ w.heap.size) : Below B w w' := ⟨h.os, h.tape, h.output, h.size, fun g hg => h.block g (Nat.lt_of_lt_of_le hg hB) (by omega)⟩
theorem KeptQ.set {q : Nat} {w w1 : World} (h : KeptQ q w w1) {p : Addr} (hp : w.heap.size ≤ p.block) (v : Value) : KeptQ q w (w1.setCell p v) := by
  have hb : Below 0 w1 (w1.setCell p v) := (Below.refl _ _).setCell (Nat.zero_le _) _
  exact ⟨hb.os.trans h.os, hb.tape.trans h.tape, hb.output.trans h.output, Nat.le_trans h.size hb.size, fun g hg hq => (heap_setCell_other _ _ _ _ (by omega)).trans (h.block g hg hq)⟩
theorem KeptQ.grown {q : Nat} {w w1 w2 : World} (h : KeptQ q w w1) {row : Option Nat} (hg : w1.grownBy w2 row) (hr : ∀ g, row = some g → w.heap.size ≤ g) : KeptQ q w w2 :=
  ⟨hg.os.trans h.os, hg.tape.trans h.tape, hg.output.trans h.output, Nat.le_trans h.size hg.size, fun g hg1 hq => (hg.block g (Nat.lt_of_lt_of_le hg1 h.size) (fun e => by have := hr g e.symm; omega)).trans (h.block g hg1 hq)⟩
/-- the places of data: not the block that changes -/
def Nq (w : World) (q : Nat) : Nat → Prop := fun b => b < w.heap.size ∧ b ≠ q
/-- a further term in a row -/
theorem Mk.app2 {w2 w3 : World} {B z : Nat} {v v' : Value} {rs : List Tr} (h : Mk w2 B v rs) (hv : ∀ g, v.ownBlock = some g → g < z) (hB : B ≤ z) {r : Tr} {o : Obj} (hr : ArgsAt w2 (fun b => z ≤ b ∧ b < w2.heap.size) r.2.1 r.1.args)
    (ho : w3.ownsRow B 24 4 v' (rs.length + 1) (tmCs rs ++ r.cs)) (hg : (w2.alloc o).grownBy w3 v.ownBlock) (hat : v'.ownBlock = v.ownBlock ∨ v'.ownBlock = some (w2.alloc o).heap.size) : Mk w3 B v' (rs ++ [r]) := by
  have z2 := hg.size
  simp at z2
  refine ⟨by rw [tmCs_snoc, List.length_append]; exact ho, fun x hx => ?_⟩
  rcases List.mem_append.1 hx with hx | hx
  · refine (h.sub x hx).keep (fun b hF => ?_) (fun b hF => ⟨hF.1, by have := hF.2.1; omega, fun e => ?_⟩)
    · have := hF.2.1
      rw [hg.block b (by simp; omega) (fun e => hF.2.2 e.symm), Below.heap_alloc w2 o b (by omega)]
    · rcases hat with e2 | e2
      · exact hF.2.2 (e2.symm.trans e)
      · rw [e] at e2; injection e2 with e2; simp at e2; have := hF.2.1; omega
  · simp at hx
    subst hx
    refine hr.keep (fun b hF => ?_) (fun b hF => ⟨by have := hF.1; omega, by have := hF.2; omega, fun e => ?_⟩)
    · rw [hg.block b (by have := hF.2; simp; omega) (fun e => ?_), Below.heap_alloc w2 o b hF.2]
      have := hv b e.symm
      have := hF.1
      omega
    · rcases hat with e2 | e2
      · have := hv b (e2.symm.trans e)
        have := hF.1
        omega
      · rw [e] at e2; injection e2 with e2; simp at e2; have := hF.2; omega
/-- what stands while the arguments are made -/
structure CsQ (F : List Int → Int → Int) (w : World) (m : Nat) (t : Tm) (A : Option Addr) (c : Nat) (l : List Int) (k : Nat) (v : Value) (rs : List Tr) (wr : World) : Prop where
  kept : KeptQ m w wr
  box : Blk wr w.heap.size 24 #[.int .i64 t.kind, .int .i64 t.n, .string t.name, .slice A t.args.length c]
  res : Blk wr (w.heap.size + 1) 24 #[.int .i64 0, .int .i64 0, .string { data := #[] }, .slice none 0 0]
  cb : Blk wr (w.heap.size + 2) 24 #[.int .i64 t.kind, .int .i64 t.n, .string t.name, v]
  row : Mk wr (w.heap.size + 3) v rs
  len : rs.length = k
  map : rs.map (·.1) = (apT.go F (t.args.take k) l).1
theorem CsQ.init {F : List Int → Int → Int} {w : World} {m : Nat} {t : Tm} {A : Option Addr} {c : Nat} {l : List Int} :
    CsQ F w m t A c l 0 (.slice none 0 0) [] (((w.alloc (.cells #[.int .i64 t.kind, .int .i64 t.n, .string t.name, .slice A t.args.length c] 24)).alloc (.cells #[.int .i64 0, .int .i64 0, .string { data := #[] }, .slice none 0 0] 24)).alloc (.cells #[.int .i64 t.kind, .int .i64 t.n, .string t.name, .slice none 0 0] 24)) := by
  refine ⟨KeptQ.of (((bAlloc _ _).alloc (by simp) _).alloc (by simp; omega) _), ((Blk.new w 24 _).alloc _).alloc _, ?_, ?_, Mk.nil _ _, rfl, by simp [apT.go]⟩
  · have h := (Blk.new (w.alloc (.cells #[.int .i64 t.kind, .int .i64 t.n, .string t.name, .slice A t.args.length c] 24)) 24 #[.int .i64 0, .int .i64 0, .string { data := #[] }, .slice none 0 0]).alloc (.cells #[.int .i64 t.kind, .int .i64 t.n, .string t.name, .slice none 0 0] 24)
    rwa [World.size_alloc] at h
  · have h := Blk.new ((w.alloc (.cells #[.int .i64 t.kind, .int .i64 t.n, .string t.name, .slice A t.args.length c] 24)).alloc (.cells #[.int .i64 0, .int .i64 0, .string { data := #[] }, .slice none 0 0] 24)) 24 #[.int .i64 t.kind, .int .i64 t.n, .string t.name, .slice none 0 0]
    rwa [World.size_alloc, World.size_alloc] at h
theorem CsQ.next {F : List Int → Int → Int} {w wr w2 w3 : World} {m k : Nat} {t x y : Tm} {A : Option Addr} {c : Nat} {l l1 : List Int} {v v' : Value} {rs : List Tr} (h : CsQ F w m t A c l k v rs wr) (hmw : m < w.heap.size) (hx : t.args[k]? = some x)
    (hl1 : (apT.go F (t.args.take k) l).2 = l1) (hy : (apT F x l1).1 = y) {o : Obj} {A4 : Option Addr} {c4 : Nat} (hb : KeptQ m wr w2) (hr4 : ArgsAt w2 (fun b => wr.heap.size ≤ b ∧ b < w2.heap.size) A4 y.args)
    (ho : w3.ownsRow (w.heap.size + 3) 24 4 v' (rs.length + 1) (tmCs rs ++ [.int .i64 y.kind, .int .i64 y.n, .string y.name, .slice A4 y.args.length c4])) (hg : (w2.alloc o).grownBy w3 v.ownBlock)
    (hat : v'.ownBlock = v.ownBlock ∨ v'.ownBlock = some (w2.alloc o).heap.size) :
    CsQ F w m t A c l (k + 1) v' (rs ++ [(y, A4, c4)]) (w3.setCell ⟨w.heap.size + 2, 3, none⟩ v') := by
  have zc := h.cb.lt
  have hz2 := hb.size
  have hlt : ∀ g, v.ownBlock = some g → w.heap.size + 3 ≤ g := fun g e => (h.row.own.lt g e).1
  have hne : ∀ b, b < w.heap.size + 3 → v.ownBlock ≠ some b := fun b hb e => by have := hlt b e; omega
  have hrow2 : Mk w2 (w.heap.size + 3) v rs := h.row.stay (fun b h3 hlt' => hb.block b hlt' (by omega)) hb.size
  have hM := hrow2.app2 (w3 := w3) (z := wr.heap.size) (v' := v') (r := (y, A4, c4)) (o := o) (fun g e => (h.row.own.lt g e).2) (by omega) hr4 ho hg hat
  have hblk : ∀ {b : Nat} {cs : Array Value}, Blk wr b 24 cs → b ≠ m → b < w.heap.size + 3 → Blk w3 b 24 cs := fun h1 h2 h3 => ((show Blk w2 _ 24 _ from (hb.block _ h1.lt h2).trans h1).alloc o).grown hg (hne _ h3)
  refine ⟨(((h.kept.trans hb).trans (KeptQ.of (bAlloc w2 o))).grown hg (fun g e => by have := hlt g e; omega)).set (by simp) _, ?_, ?_, ?_, ?_, ?_, ?_⟩
  · exact (hblk h.box (by omega) (by omega)).far (by simp) _
  · exact (hblk h.res (by omega) (by omega)).far (by simp) _
  · have := (hblk h.cb (by omega) (by omega)).set_ 3 v'
    simpa using this
  · exact hM.stay (fun b hb3 _ => heap_setCell_other _ _ _ _ (by simp; omega)) (by simp [World.setCell])
  · simp [h.len]
  · rw [List.map_append, h.map, apT_go_next hx, hl1, hy]
    rfl
theorem okT_at {l : List Tm} {i : Nat} {x : Tm} (h : okT.go l = true) (hx : l[i]? = some x) : okT x = true := by
  induction l generalizing i with
  | nil => simp at hx
  | cons y r ih =>
    simp only [okT.go, Bool.and_eq_true] at h
    cases i with
    | zero => simp at hx; subst hx; exact h.1
    | succ i => exact ih h.2 (by simpa using hx)
theorem okT_args {t : Tm} (h : okT t = true) : okT.go t.args = true := by
  rw [okT_eq] at h
  simp only [Bool.and_eq_true] at h
  exact h.2
theorem okT_take {t : Tm} (h : okT t = true) (k : Nat) : okT.go (t.args.take k) = true := by
  have h1 := okT_go_append (t.args.take k) (t.args.drop k)
  rw [List.take_append_drop, okT_args h] at h1
  exact (Bool.and_eq_true_iff.1 h1.symm).1
theorem apT_go_vars {F : List Int → Int → Int} {a : List Tm} (l : List Int) (h : okT.go a = true) : (apT.go F a l).2 = varsT.go a l := by
  induction a generalizing l with
  | nil => rfl
  | cons x r ih =>
    simp only [okT.go, Bool.and_eq_true] at h
    simp only [apT.go, varsT.go]
    rw [apT_vars _ x l (Nat.lt_succ_self _) h.1]
    exact ih _ h.2
theorem frozen_of_block {w w' : World} {a : Addr} (h : w'.heap[a.block]? = w.heap[a.block]?) : w'.frozen? a = w.frozen? a := by
  unfold World.frozen?
  rw [h]
theorem id69_any (n : Int) {A : Option Addr} {c : Nat} (w : World) : Calls Tryz.prog 85 #[Tm.v (.mk 0 n { data := #[] } []) A c] w fun e w' => e = .returned (Tm.v (.mk 0 n { data := #[] } []) A c) ∧ Below w.heap.size w w' := by
  go_enter Tryz.func85, Tryz.ntmps85
  go_wp2
  refine bodyPost_ret (v := Tm.v (.mk 0 n { data := #[] } []) A c) (by simp [results, Tryz.results85, go_sem, Tm.kind, Tm.n, Tm.name, Tm.args]) rfl ⟨rfl, ?_⟩
  repeat first | exact (bAlloc _ _).alloc (by simp) _ | refine Below.setCell ?_ (by simp) _
end Go.Proofs.YtcagaaacfcpoeaaGreat
