/-
  A family of rows of numbers that a call owns, no two in one block; how it is kept, and how one of them grows.
-/
import Derived.Test.YtpkpdjekoghkcaaMem
namespace Go.Proofs.Ytpkpdjekoghkcaa
open Go.RowKit

def upd {α : Type} (f : Nat → α) (i : Nat) (x : α) : Nat → α := fun j => if j = i then x else f j
theorem upd_same {α : Type} (f : Nat → α) (i : Nat) (x : α) : upd f i x i = x := by simp [upd]
theorem upd_other {α : Type} (f : Nat → α) {i j : Nat} (x : α) (h : j ≠ i) : upd f i x j = f j := by simp [upd, h]

section
variable {w w' : World} {base base' e size n : Nat} {v : Value} {xs : List Value}
theorem own_form (h : w.ownsRow base e size v n xs) : ∃ A c, v = .slice A n c := by
  rcases h.2 with ⟨rfl, rfl⟩ | ⟨g, cap, cur, rfl, _⟩
  · exact ⟨_, _, rfl⟩
  · exact ⟨_, _, rfl⟩
theorem own_some (h : w.ownsRow base e size v n xs) (hn : 0 < n) : ∃ g cap, v = .slice (some ⟨g, 0, none⟩) n cap := by
  rcases h.2 with ⟨rfl, h0⟩ | ⟨g, cap, cur, rfl, _⟩
  · omega
  · exact ⟨_, _, rfl⟩
theorem own_type (h : w.ownsRow base e size v n xs) {g : Nat} (hg : v.ownBlock = some g) : ∃ cs, w.heap[g]? = some (.cells cs e (0, 0)) := by
  rcases h.2 with ⟨rfl, rfl⟩ | ⟨g', cap, cur, rfl, _, hh, _⟩
  · simp [Value.ownBlock] at hg
  · simp [Value.ownBlock] at hg; subst hg; exact ⟨_, hh⟩
theorem own_stay (h : w.ownsRow base e size v n xs) (hk : ∀ g, v.ownBlock = some g → w'.heap[g]? = w.heap[g]?) : w'.ownsRow base e size v n xs := by
  refine ⟨h.1, ?_⟩
  rcases h.2 with h2 | ⟨g, cap, cur, hv, hg, hh, r⟩
  · exact .inl h2
  · exact .inr ⟨g, cap, cur, hv, hg, (hk g (by rw [hv]; rfl)).trans hh, r⟩
theorem own_ne (h : w.ownsRow base e size v n xs) {g t : Nat} {cs : Array Value} {fr : Nat × Nat} (hg : w.heap[g]? = some (.cells cs t fr)) (hne : t ≠ e) : v.ownBlock ≠ some g := by
  intro hv
  obtain ⟨cs', h'⟩ := own_type h hv
  rw [h'] at hg
  injection hg with hg
  injection hg with _ ht _
  exact hne ht.symm
theorem own_ne_map (h : w.ownsRow base e size v n xs) {g c : Nat} {es : Array MapEntry} (hg : w.heap[g]? = some (.map es c)) : v.ownBlock ≠ some g := by
  intro hv
  obtain ⟨cs', h'⟩ := own_type h hv
  rw [h'] at hg
  injection hg with hg
  cases hg
theorem cells_new (w : World) (cs : List Value) (t : TypeId) : ∀ j u, cs[j]? = some u → (w.alloc (.cells cs.toArray t)).cell? ((⟨w.heap.size, 0, none⟩ : Addr).add j) = some u := by
  intro j u hj
  have h := cell_of_row (w.alloc (.cells cs.toArray t)) w.heap.size j cs.toArray t (0, 0) (heap_alloc_new w _)
  have e : (⟨w.heap.size, 0, none⟩ : Addr).add j = ⟨w.heap.size, j, none⟩ := by
    unfold Addr.add
    by_cases hi : j = 0 <;> simp [hi]
  rw [e, h]
  simpa using hj
end

structure Fam (w : World) (e base N : Nat) (vs : Nat → Value) (ls : Nat → List Int) : Prop where
  own : ∀ i, i < N → w.ownsRow base e 1 (vs i) (ls i).length ((ls i).map (.int .i64))
  apart : ∀ i j b, i < N → j < N → i ≠ j → (vs i).ownBlock = some b → (vs j).ownBlock ≠ some b

section
variable {w w' : World} {e base N : Nat} {vs : Nat → Value} {ls : Nat → List Int}
theorem Fam.stay (h : Fam w e base N vs ls) (hk : ∀ (g : Nat) (cs : Array Value), w.heap[g]? = some (Obj.cells cs e (0, 0)) → w'.heap[g]? = w.heap[g]?) : Fam w' e base N vs ls :=
  ⟨fun i hi => own_stay (h.own i hi) fun g hg => by obtain ⟨cs, hc⟩ := own_type (h.own i hi) hg; exact hk g cs hc, h.apart⟩
theorem Fam.app (h : Fam w e base N vs ls) {i : Nat} (hi : i < N) {v' : Value} {l' : List Int} (ho : w'.ownsRow base e 1 v' l'.length (l'.map (.int .i64))) (hg : w.grownBy w' (vs i).ownBlock)
    (hat : v'.ownBlock = (vs i).ownBlock ∨ v'.ownBlock = some w.heap.size) : Fam w' e base N (upd vs i v') (upd ls i l') := by
  have hlt : ∀ j b, j < N → (vs j).ownBlock = some b → b < w.heap.size := fun j b hj hb => ((h.own j hj).lt b hb).2
  refine ⟨fun j hj => ?_, fun j k b hj hk hne => ?_⟩
  · by_cases hji : j = i
    · subst hji; rw [upd_same, upd_same]; exact ho
    · rw [upd_other _ _ hji, upd_other _ _ hji]
      exact own_stay (h.own j hj) fun g hgj => hg.block g (hlt j g hj hgj) (fun e' => h.apart j i g hj hi hji hgj e'.symm)
  · by_cases hji : j = i
    · subst hji
      rw [upd_same, upd_other _ _ (fun e' => hne e'.symm)]
      intro hb hb'
      rcases hat with h1 | h1
      · rw [h1] at hb; exact h.apart j k b hj hk hne hb hb'
      · rw [h1] at hb; have := hlt k b hk hb'; injection hb with hb; omega
    · by_cases hki : k = i
      · subst hki
        rw [upd_same, upd_other _ _ hji]
        intro hb hb'
        rcases hat with h1 | h1
        · rw [h1] at hb'; exact h.apart j k b hj hk hne hb hb'
        · rw [h1] at hb'; have := hlt j b hj hb; injection hb' with hb'; omega
      · rw [upd_other _ _ hji, upd_other _ _ hki]
        exact h.apart j k b hj hk hne
theorem Fam.add (h : Fam w e base N vs ls) {v : Value} {l : List Int} (hb : Below w.heap.size w w') (ho : w'.ownsRow w.heap.size e 1 v l.length (l.map (.int .i64))) (hbase : base ≤ w.heap.size) : Fam w' e base (N + 1) (upd vs N v) (upd ls N l) := by
  have hlt : ∀ j b, j < N → (vs j).ownBlock = some b → b < w.heap.size := fun j b hj hb => ((h.own j hj).lt b hb).2
  refine ⟨fun j hj => ?_, fun j k b hj hk hne => ?_⟩
  · by_cases hji : j = N
    · subst hji; rw [upd_same, upd_same]; exact own_base ho hbase
    · rw [upd_other _ _ hji, upd_other _ _ hji]
      exact own_below (h.own j (by omega)) hb
  · by_cases hji : j = N
    · subst hji
      rw [upd_same, upd_other _ _ (fun e' => hne e'.symm)]
      intro hb hb'
      have := hlt k b (by omega) hb'
      have := (ho.lt b hb).1
      omega
    · by_cases hki : k = N
      · subst hki
        rw [upd_same, upd_other _ _ hji]
        intro hb hb'
        have := hlt j b (by omega) hb
        have := (ho.lt b hb').1
        omega
      · rw [upd_other _ _ hji, upd_other _ _ hki]
        exact h.apart j k b (by omega) (by omega) hne
theorem Fam.read (h : Fam w e base N vs ls) {i : Nat} (hi : i < N) (hm : (ls i).length ≤ 281474976710656) : ∃ A c, vs i = .slice A (ls i).length c ∧ IntsAt w w.heap.size A (ls i).length (ls i) :=
  own_ints (h.own i hi) hm
theorem Fam.zero (w : World) (e base N : Nat) : Fam w e base N (fun _ => .slice none 0 0) (fun _ => []) :=
  ⟨fun _ _ => World.ownsRow_nil _ _ _ _, fun _ _ _ _ _ _ h => by simp [Value.ownBlock] at h⟩
end

/-- a block that is known whole -/
def Blk (w : World) (g : Nat) (t : TypeId) (cs : Array Value) : Prop := w.heap[g]? = some (.cells cs t (0, 0))
section
variable {w w' : World} {g : Nat} {t : TypeId} {cs : Array Value}
theorem Blk.lt (h : Blk w g t cs) : g < w.heap.size := by
  rcases Nat.lt_or_ge g w.heap.size with hlt | hge
  · exact hlt
  · unfold Blk at h; rw [Array.getElem?_eq_none hge] at h; cases h
theorem Blk.cell (h : Blk w g t cs) (i : Nat) : w.cell? ⟨g, i, none⟩ = cs[i]? := cell_of_row w g i cs t (0, 0) h
theorem Blk.frozen (h : Blk w g t cs) (i : Nat) : w.frozen? ⟨g, i, none⟩ = false := frozen_of_row w g i cs t h
theorem Blk.new (w : World) (t : TypeId) (cs : Array Value) : Blk (w.alloc (.cells cs t)) w.heap.size t cs := heap_alloc_new w _
theorem Blk.alloc (h : Blk w g t cs) (o : Obj) : Blk (w.alloc o) g t cs := (Below.heap_alloc w o g h.lt).trans h
theorem Blk.below {B : Nat} (h : Blk w g t cs) (hb : Below B w w') (hg : g < B) : Blk w' g t cs := (hb.block g hg).trans h
theorem Blk.grown {row : Option Nat} (h : Blk w g t cs) (hb : w.grownBy w' row) (hg : row ≠ some g) : Blk w' g t cs := (hb.block g h.lt (fun e => hg e.symm)).trans h
theorem Blk.set_ (h : Blk w g t cs) (i : Nat) (u : Value) : Blk (w.setCell ⟨g, i, none⟩ u) g t (cs.setIfInBounds i u) := by
  unfold Blk at h ⊢
  simp [World.setCell, Array.getElem?_modify, h]
theorem Blk.far (h : Blk w g t cs) {p : Addr} (hp : g ≠ p.block) (u : Value) : Blk (w.setCell p u) g t cs := (heap_setCell_other w p g u hp).trans h
end
end Go.Proofs.Ytpkpdjekoghkcaa
