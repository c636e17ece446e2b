/-
  Rows of files and of streams that a call owns; an append of a slice that may be nil.
-/
import Derived.Test.YtklpghpfdeojeaaSc
import Derived.OwnWalk
import Derived.Maps.AppendAt
import Derived.Deep.AppendLies
namespace Go.Proofs.Ytklpghpfdeojeaa
open Go.RowKit

def fCs : List F → List Value
  | [] => []
  | x :: l => .string x.name :: .string x.text :: fCs l
def gCs : List G → List Value
  | [] => []
  | x :: l => .int .i64 x.id :: .string x.file :: .int .i64 x.mode :: .int .i64 x.pos :: .string x.alias_ :: .int .i64 x.eof :: .bool x.past :: gCs l
theorem fCs_len (l : List F) : (fCs l).length = l.length * 2 := by
  induction l with
  | nil => rfl
  | cons x t ih => simp only [fCs, List.length_cons, ih]; omega
theorem gCs_len (l : List G) : (gCs l).length = l.length * 7 := by
  induction l with
  | nil => rfl
  | cons x t ih => simp only [gCs, List.length_cons, ih]; omega
theorem fCs_app (l m : List F) : fCs (l ++ m) = fCs l ++ fCs m := by
  induction l with
  | nil => rfl
  | cons x t ih => simp only [List.cons_append, fCs, ih]
theorem gCs_app (l m : List G) : gCs (l ++ m) = gCs l ++ gCs m := by
  induction l with
  | nil => rfl
  | cons x t ih => simp only [List.cons_append, gCs, ih]
theorem fCs_at {l : List F} {i : Nat} {x : F} (h : l[i]? = some x) : (fCs l)[i * 2]? = some (.string x.name) ∧ (fCs l)[i * 2 + 1]? = some (.string x.text) := by
  induction l generalizing i with
  | nil => simp at h
  | cons y t ih =>
    cases i with
    | zero => simp at h; subst h; simp [fCs]
    | succ i =>
      simp at h
      have := ih h
      rw [show (i + 1) * 2 = i * 2 + 1 + 1 by omega]
      simpa [fCs] using this
theorem gCs_at {l : List G} {i : Nat} {x : G} (h : l[i]? = some x) : (gCs l)[i * 7]? = some (.int .i64 x.id) ∧ (gCs l)[i * 7 + 1]? = some (.string x.file) ∧ (gCs l)[i * 7 + 2]? = some (.int .i64 x.mode) ∧ (gCs l)[i * 7 + 3]? = some (.int .i64 x.pos) ∧
    (gCs l)[i * 7 + 4]? = some (.string x.alias_) ∧ (gCs l)[i * 7 + 5]? = some (.int .i64 x.eof) ∧ (gCs l)[i * 7 + 6]? = some (.bool x.past) := by
  induction l generalizing i with
  | nil => simp at h
  | cons y t ih =>
    cases i with
    | zero => simp at h; subst h; simp [gCs]
    | succ i =>
      simp at h
      have := ih h
      rw [show (i + 1) * 7 = i * 7 + 1 + 1 + 1 + 1 + 1 + 1 + 1 by omega]
      simpa [gCs] using this
theorem f_one (l : List F) : ∀ u ∈ fCs l, u.oneCell' = true := by
  induction l with
  | nil => intro u hu; simp [fCs] at hu
  | cons x t ih =>
    intro u hu
    simp only [fCs, List.mem_cons] at hu
    rcases hu with rfl | rfl | hu
    · rfl
    · rfl
    · exact ih u hu
theorem g_one (l : List G) : ∀ u ∈ gCs l, u.oneCell' = true := by
  induction l with
  | nil => intro u hu; simp [gCs] at hu
  | cons x t ih =>
    intro u hu
    simp only [gCs, List.mem_cons] at hu
    rcases hu with rfl | rfl | rfl | rfl | rfl | rfl | rfl | hu
    all_goals first | rfl | exact ih u hu
theorem add_plain (b off i : Nat) : (Addr.mk b off none).add i = ⟨b, off + i, none⟩ := by
  unfold Addr.add
  by_cases hi : i = 0 <;> simp [hi]
theorem files_cells {w : World} {B n : Nat} {A : Option Addr} {l : List F} (h : FilesAt w B A n l) : ∀ ad, A = some ad → ∀ j u, (fCs l)[j]? = some u → w.cell? (ad.add j) = some u := by
  rintro ad rfl j u hu
  have hj := (List.getElem?_eq_some_iff.1 hu).1
  rw [fCs_len] at hj
  have hl := h.1.1
  obtain ⟨b, off, x, e, -, hx, c0, c1⟩ := h.at (i := j / 2) (by omega)
  injection e with e
  subst e
  obtain ⟨r0, r1⟩ := fCs_at hx
  rw [add_plain]
  have hm : j % 2 = 0 ∨ j % 2 = 1 := by omega
  rcases hm with hm | hm
  · rw [show j / 2 * 2 = j by omega] at r0 c0; rw [c0, ← r0, hu]
  · rw [show j / 2 * 2 + 1 = j by omega] at r1; rw [show off + j / 2 * 2 + 1 = off + j by omega] at c1; rw [c1, ← r1, hu]
theorem opens_cells {w : World} {B n : Nat} {A : Option Addr} {l : List G} (h : OpensAt w B A n l) : ∀ ad, A = some ad → ∀ j u, (gCs l)[j]? = some u → w.cell? (ad.add j) = some u := by
  rintro ad rfl j u hu
  have hj := (List.getElem?_eq_some_iff.1 hu).1
  rw [gCs_len] at hj
  have hl := h.1.1
  obtain ⟨b, off, x, e, -, hx, c0, c1, c2, c3, c4, c5, c6⟩ := h.at (i := j / 7) (by omega)
  injection e with e
  subst e
  obtain ⟨r0, r1, r2, r3, r4, r5, r6⟩ := gCs_at hx
  rw [add_plain]
  have hm : j % 7 = 0 ∨ j % 7 = 1 ∨ j % 7 = 2 ∨ j % 7 = 3 ∨ j % 7 = 4 ∨ j % 7 = 5 ∨ j % 7 = 6 := by omega
  rcases hm with hm | hm | hm | hm | hm | hm | hm
  · rw [show j / 7 * 7 = j by omega] at r0 c0; rw [c0, ← r0, hu]
  · rw [show j / 7 * 7 + 1 = j by omega] at r1; rw [show off + j / 7 * 7 + 1 = off + j by omega] at c1; rw [c1, ← r1, hu]
  · rw [show j / 7 * 7 + 2 = j by omega] at r2; rw [show off + j / 7 * 7 + 2 = off + j by omega] at c2; rw [c2, ← r2, hu]
  · rw [show j / 7 * 7 + 3 = j by omega] at r3; rw [show off + j / 7 * 7 + 3 = off + j by omega] at c3; rw [c3, ← r3, hu]
  · rw [show j / 7 * 7 + 4 = j by omega] at r4; rw [show off + j / 7 * 7 + 4 = off + j by omega] at c4; rw [c4, ← r4, hu]
  · rw [show j / 7 * 7 + 5 = j by omega] at r5; rw [show off + j / 7 * 7 + 5 = off + j by omega] at c5; rw [c5, ← r5, hu]
  · rw [show j / 7 * 7 + 6 = j by omega] at r6; rw [show off + j / 7 * 7 + 6 = off + j by omega] at c6; rw [c6, ← r6, hu]

section
variable {w w' : World} {base n : Nat} {v : Value}
theorem own_form {e size : Nat} {xs : List Value} (h : w.ownsRow base e size v n xs) : ∃ A c, v = .slice A n c ∧ CapOk A n c := by
  rcases h.2 with ⟨rfl, rfl⟩ | ⟨g, cap, cur, rfl, _, _, hc, _⟩
  · exact ⟨_, _, rfl, Nat.le_refl _, fun _ => rfl⟩
  · exact ⟨_, _, rfl, hc, fun e => by cases e⟩
theorem own_stay {e size : Nat} {xs : List Value} (h : w.ownsRow base e size v n xs) (hk : ∀ g, v.ownBlock = some g → w'.heap[g]? = w.heap[g]?) : w'.ownsRow base e size v n xs := by
  refine ⟨h.1, ?_⟩
  rcases h.2 with h2 | ⟨g, cap, cur, hv, hg, hh, r⟩
  · exact .inl h2
  · exact .inr ⟨g, cap, cur, hv, hg, (hk g (by rw [hv]; rfl)).trans hh, r⟩
theorem own_below {e size : Nat} {xs : List Value} (h : w.ownsRow base e size v n xs) (hb : Below w.heap.size w w') : w'.ownsRow base e size v n xs := own_stay h fun g hg => hb.block g (h.lt g hg).2
theorem own_files {l : List F} (h : w.ownsRow base 35 2 v n (fCs l)) (hm : n ≤ 4398046511104) : ∃ A c, v = .slice A n c ∧ CapOk A n c ∧ l.length = n ∧ FilesAt w w.heap.size A n l := by
  obtain ⟨A, c, rfl, hc⟩ := own_form h
  have hl : l.length = n := by have := h.1; rw [fCs_len] at this; omega
  refine ⟨A, c, rfl, hc, hl, ⟨hl, hm⟩, fun hn => ?_⟩
  rcases h.2 with ⟨_, h0⟩ | ⟨g, cap, cur, hv, hg, hh, _⟩
  · omega
  · injection hv with hv _ _
    subst hv
    refine ⟨g, 0, rfl, (h.lt g rfl).2, fun i x hx => ?_⟩
    obtain ⟨r0, r1⟩ := fCs_at hx
    have hcell : ∀ j u, (fCs l)[j]? = some u → w.cell? ⟨g, j, none⟩ = some u := fun j u hj => by
      have := h.cells (g := g) rfl j u hj
      rw [add_plain] at this
      simpa using this
    simp only [Nat.zero_add, FCells]
    exact ⟨hcell _ _ r0, hcell _ _ r1⟩
theorem own_opens {l : List G} (h : w.ownsRow base 52 7 v n (gCs l)) (hm : n ≤ 1954687338268) : ∃ A c, v = .slice A n c ∧ CapOk A n c ∧ l.length = n ∧ OpensAt w w.heap.size A n l := by
  obtain ⟨A, c, rfl, hc⟩ := own_form h
  have hl : l.length = n := by have := h.1; rw [gCs_len] at this; omega
  refine ⟨A, c, rfl, hc, hl, ⟨hl, hm⟩, fun hn => ?_⟩
  rcases h.2 with ⟨_, h0⟩ | ⟨g, cap, cur, hv, hg, hh, _⟩
  · omega
  · injection hv with hv _ _
    subst hv
    refine ⟨g, 0, rfl, (h.lt g rfl).2, fun i x hx => ?_⟩
    obtain ⟨r0, r1, r2, r3, r4, r5, r6⟩ := gCs_at hx
    have hcell : ∀ j u, (gCs l)[j]? = some u → w.cell? ⟨g, j, none⟩ = some u := fun j u hj => by
      have := h.cells (g := g) rfl j u hj
      rw [add_plain] at this
      simpa using this
    simp only [Nat.zero_add, GCells]
    exact ⟨hcell _ _ r0, hcell _ _ r1, hcell _ _ r2, hcell _ _ r3, hcell _ _ r4, hcell _ _ r5, hcell _ _ r6⟩
end

/-- an append of a slice that may be nil, to a row of the call's own -/
theorem wpList_append_src {w : World} {ops : Array Oper} {rest : List Oper} {o : Oper} {a : Act} {Q : Exit → Act → World → Prop} (hgd : o.guard = none) (s x : Operand) (t : TypeId)
    (ho : o.op = .call { callee := .builtin .append, args := #[s, x], argTypes := #[t, t] }) (base : Nat) (e : TypeId) (i : TypeInfo) (z : Value) (size bytes : Nat) (ht : Try.prog.underlying t = some (.slice e)) (hi : Try.prog.info? e = some i) (hz : i.zero = some z)
    (hsize : i.size = size) (hby : i.bytes = bytes) (hzs : z.cells.size = size) (hsz : 0 < size)
    (v : Value) (n : Nat) (xs : List Value) (hs : a.eval s = v) (hown : w.ownsRow base e size v n xs)
    (A : Option Addr) (m c : Nat) (news : List Value) (hx : a.eval x = .slice A m c) (hcap : CapOk A m c) (hl : news.length = m * size) (hnews : ∀ ad, A = some ad → ∀ j u, news[j]? = some u → w.cell? (ad.add j) = some u) (h1 : ∀ u ∈ news, u.oneCell' = true)
    (h63 : n + m ≤ maxLen) (hbytes : (n + m) * bytes ≤ 140737488355328) (hbase : base ≤ w.heap.size)
    (h : ∀ v' w', w'.ownsRow base e size v' (n + m) (xs ++ news) → w.grownBy w' v.ownBlock → (v'.ownBlock = v.ownBlock ∨ v'.ownBlock = some w.heap.size) → wpList Try.prog ops Q rest (a.put o.dst v') w') :
    wpList Try.prog ops Q (o :: rest) a w := by
  cases A with
  | some ad => exact wpList_append_own_at w hgd s x t ho base e i z size bytes ht hi hz hsize hby hzs hsz v n xs hs hown ad m c news hx hl (hnews ad rfl) h1 h63 hbytes hbase (fun v' w' h2 h3 _ h5 => h v' w' h2 h3 h5)
  | none =>
    have hc := hcap.2 rfl
    have hm : m = 0 := by have := hcap.1; omega
    subst hc hm
    have hln : news = [] := List.eq_nil_of_length_eq_zero (by simpa using hl)
    subst hln
    have hrun := run_append_owned_none (P := Try.prog) w base t o.type e i size ht hi v n xs hown
    refine wpList_plain hgd fun K hK => ?_
    unfold Oper.wp
    simp [execOp, ho, resolve, invoke, builtin, hs, hx, hrun, Result.andThen]
    exact hK _ _ (h v w (by simpa using hown) (World.grownBy.refl _ _) (.inl rfl))
end Go.Proofs.Ytklpghpfdeojeaa
