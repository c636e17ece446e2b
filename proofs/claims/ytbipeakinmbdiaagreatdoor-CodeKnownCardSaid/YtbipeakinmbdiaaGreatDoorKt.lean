/-
  Plain: the listing of a valid block is read as this block. Plain: Text and Parse are each other's converse. Walk: Parse.
-/
import Derived.Test.YtbipeakinmbdiaaGreatDoorKq
import Derived.Test.YtbipeakinmbdiaaGreatDoorKs
namespace Go.Proofs.YtbipeakinmbdiaaGreatDoor
section
open Go.RowKit

/-- a text of one line -/
def One (l : List UInt8) : Prop := (10 : UInt8) ∉ l
theorem One.app {a b : List UInt8} (h : One a) (k : One b) : One (a ++ b) := fun e => (List.mem_append.1 e).elim h k
theorem One.cons {c : UInt8} {b : List UInt8} (h : c ≠ 10) (k : One b) : One (c :: b) := fun e => (List.mem_cons.1 e).elim (fun e => h e.symm) k
theorem One.nil : One [] := fun e => by cases e
theorem one_num (n : Int) : One (numL n) := fun e => by
  rcases num_all n 10 e with h | h
  · cases h
  · cases h
theorem hexD_no (n : Nat) (h : n < 16) : hexD n ≠ 10 := by
  have : n = 0 ∨ n = 1 ∨ n = 2 ∨ n = 3 ∨ n = 4 ∨ n = 5 ∨ n = 6 ∨ n = 7 ∨ n = 8 ∨ n = 9 ∨ n = 10 ∨ n = 11 ∨ n = 12 ∨ n = 13 ∨ n = 14 ∨ n = 15 := by omega
  rcases this with rfl | rfl | rfl | rfl | rfl | rfl | rfl | rfl | rfl | rfl | rfl | rfl | rfl | rfl | rfl | rfl <;> decide
theorem one_esc (c : UInt8) : One (escB c) := by
  unfold escB
  split
  · rename_i h
    refine One.cons ?_ One.nil
    rintro rfl
    revert h
    decide
  · exact One.cons (by decide) (One.cons (by decide) (One.cons (hexD_no _ (by have := c.toNat_lt; omega)) (One.cons (hexD_no _ (by omega)) One.nil)))
theorem one_quote (l : List UInt8) : One (quoteL l) := by
  unfold quoteL
  refine One.cons (by decide) (One.app (fun e => ?_) (One.cons (by decide) One.nil))
  obtain ⟨c, _, hc⟩ := List.mem_flatMap.1 e
  exact one_esc c hc
theorem one_fun (s : List UInt8) (a : Int) : One (funL s a) := (one_quote s).app (One.cons (by decide) (one_num a))
theorem one_pred (s : List UInt8) (a n : Int) : One (predL s a n) := by
  unfold predL
  split
  · exact one_fun s a
  · exact One.cons (by decide) ((one_num n).app (One.cons (by decide) (one_num a)))
theorem one_key (k n : Int) (s : List UInt8) (a : Int) : One (keyL k n s a) := by
  unfold keyL
  split
  · exact one_num n
  · split
    · exact one_quote s
    · split
      · exact one_fun s a
      · exact One.cons (by decide) One.nil
theorem one_reg (r : Int) : One (regL r) := by
  unfold regL
  split
  · exact One.cons (by decide) (one_num _)
  · exact One.cons (by decide) (one_num _)
theorem one_field (x : In) (c : UInt8) : One (fieldL x c) := by
  unfold fieldL
  split
  · exact one_reg _
  · split
    · exact one_reg _
    · split
      · exact one_quote _
      · split
        · exact one_fun _ _
        · split
          · exact one_pred _ _ _
          · exact one_num _
theorem one_name (op : Int) : One (nameL op) := by
  cases h : okOp op with
  | false => unfold nameL; rw [sh_out h]; exact One.nil
  | true => rcases op_cases h with rfl | rfl | rfl | rfl | rfl | rfl | rfl | rfl | rfl | rfl | rfl | rfl | rfl | rfl | rfl | rfl | rfl | rfl | rfl | rfl | rfl | rfl | rfl | rfl | rfl <;> (unfold One; decide)
theorem one_line (x : In) : One (lineL x) := by
  unfold lineL
  refine (one_name _).app fun e => ?_
  obtain ⟨c, _, hc⟩ := List.mem_flatMap.1 e
  exact One.cons (by decide) (one_field x c) hc
theorem one_head (b : Bk) : One (headL b) := by
  unfold headL
  refine One.app (by unfold One blockW; decide) ((one_num _).app (One.cons (by decide) ((one_pred _ _ _).app (One.cons (by decide) (one_key _ _ _ _)))))
theorem goP_lines : ∀ (l : List In) (k : Nat) (b : Bk), k ≠ 0 → (∀ x ∈ l, fo x = true ∧ inR x.n) → goP (l.map lineL) k b = .ok { b with code := b.code ++ l }
  | [], k, b, _, _ => by
    show Except.ok b = _
    rw [List.append_nil]
  | x :: l, k, b, hk, h => by
    have h1 := h x (by simp)
    have h2 := lineP_line h1.1 h1.2
    show goP (lineL x :: l.map lineL) k b = _
    conv => lhs; unfold goP
    rw [if_neg hk, h2]
    show goP (l.map lineL) (k + 1) _ = _
    rw [goP_lines l (k + 1) _ (by omega) fun y hy => h y (by simp [hy])]
    simp
theorem text_lines (b : Bk) : splitL (textL b) = (headL b :: b.code.map lineL) ++ [[]] := by
  have h := splitL_lines (headL b :: b.code.map lineL) (by
    intro l hl
    rcases List.mem_cons.1 hl with rfl | hl
    · exact one_head b
    · obtain ⟨x, _, rfl⟩ := List.mem_map.1 hl
      exact one_line x)
  rw [← h]
  congr 1
  unfold textL
  rw [List.flatMap_cons, List.flatMap_map, List.append_assoc]
  rfl
end
section
open Go.RowKit

/-- the head alone -/
def hdOf (b : Bk) : Bk := { b with code := [] }
theorem hdP_of (b : Bk) : hdP (hdOf b) = hdP b := rfl
theorem goP_text {b : Bk} (h1 : hdP b = true) (h2 : inR b.kn) (h3 : ∀ x ∈ b.code, fo x = true ∧ inR x.n) : goP (headL b :: b.code.map lineL) 0 zBk = .ok b := by
  have h := headP_head (b := hdOf b) h1 h2 rfl
  have e : headL (hdOf b) = headL b := rfl
  rw [e] at h
  unfold goP
  rw [if_pos rfl, h]
  show goP (b.code.map lineL) 1 (hdOf b) = _
  rw [goP_lines b.code 1 (hdOf b) (by omega) h3]
  rfl
/-- the listing of a valid block is read as this block -/
theorem parse_text {b : Bk} (h : vaP b = true) (hr : RgB b) (hl : (textL b).length ≤ 16384) : parseV (textL b) = (b, 0, 0) := by
  obtain ⟨h1, h2, _⟩ := va_head h
  have hs := text_lines b
  have hd : (splitL (textL b)).dropLast = headL b :: b.code.map lineL := by rw [hs, List.dropLast_concat]
  unfold parseV
  rw [if_neg (by omega), hd, goP_text h1 hr.1 fun x hx => ⟨va_fo h x hx, hr.2 x hx⟩]
  show (if _ then _ else _) = _
  rw [if_neg, if_pos h]
  rw [hs]
  rintro (e | e)
  · simp at e
  · exact e List.getLast?_concat
/-- what is read as a block is its listing -/
theorem parse_ok {t : List UInt8} {b : Bk} {n : Int} (h : parseV t = (b, n, 0)) : vaP b = true ∧ textL b = t ∧ n = 0 ∧ t.length ≤ 16384 := by
  unfold parseV at h
  by_cases hl : 16384 < t.length
  · rw [if_pos hl] at h; injection h with _ h; injection h with _ h; cases h
  · rw [if_neg hl] at h
    cases hg : goP (splitL t).dropLast 0 zBk with
    | error k => rw [hg] at h; injection h with _ h; injection h with _ h; cases h
    | ok d =>
      rw [hg] at h
      replace h : (if (splitL t).length = 1 ∨ (splitL t).getLast? ≠ some [] then (zBk, ((splitL t).length : Int), (3 : Int)) else if vaP d then (d, 0, 0) else (zBk, 0, 1)) = (b, n, 0) := h
      by_cases h1 : (splitL t).length = 1 ∨ (splitL t).getLast? ≠ some []
      · rw [if_pos h1] at h; injection h with _ h; injection h with _ h; cases h
      · rw [if_neg h1] at h
        by_cases h2 : vaP d = true
        · rw [if_pos h2] at h
          injection h with e1 h
          injection h with e2 _
          subst e1
          refine ⟨h2, ?_, e2.symm, by omega⟩
          obtain ⟨p, x, e3, e4⟩ := splitL_back t.length t (Nat.le_refl _)
          rw [e3] at h1 hg
          rw [List.dropLast_concat] at hg
          have hx : x = [] := by
            by_cases hx : x = []
            · exact hx
            · exact absurd (.inr (by simpa using hx)) h1
          subst hx
          cases p with
          | nil => exact absurd (.inl rfl) h1
          | cons s r =>
            unfold goP at hg
            rw [if_pos rfl] at hg
            cases hh : headP s with
            | none => rw [hh] at hg; cases hg
            | some d0 =>
              rw [hh] at hg
              obtain ⟨xs, f1, f2, f3⟩ := goP_len r 1 d0 d (by omega) hg
              obtain ⟨k1, k2, k3, k4⟩ := headP_some hh
              rw [e4, List.append_nil, List.flatMap_cons, ← f3, List.flatMap_map, ← k2]
              unfold textL
              have e5 : headL d = headL d0 := by rw [f1]; rfl
              have e6 : d.code = xs := by rw [f1]; simp [k3]
              rw [e5, e6, List.append_assoc]
              rfl
        · rw [if_neg h2] at h; injection h with _ h; injection h with _ h; cases h
end
section
open Go.RowKit

/-- where the reading of a block stands -/
structure Ps (w wr : World) (B lr : Nat) (cs : Array Value) (b : Bk) (v : Value) : Prop where
  bk : BkAt wr w.heap.size B b v
  ln : Blk wr lr 9 cs
  kp : Below w.heap.size w wr
  pl : w.heap.size ≤ B ∧ B < lr
  np : ∀ g, v.ownBlock = some g → g ≠ B ∧ g ≠ lr
/-- what Parse returns: a block with a row of its own -/
def PsR (w : World) (t : List UInt8) (e : Ending) (w' : World) : Prop :=
  ∃ A n c, n = (parseV t).1.code.length ∧ e = .returned (.tuple #[(parseV t).1.v A c, .int .i64 (parseV t).2.1, .int .i64 (parseV t).2.2]) ∧ w'.ownsRow w.heap.size 34 6 (.slice A n c) n (aCs (parseV t).1.code) ∧ Below w.heap.size w w'
theorem LnR.mono {base B z0 z1 : Nat} {b : Bk} {s : List UInt8} {v : Value} {o : Option (Bool × List UInt8)} {w : World} (h : LnR base B b s v z1 o w) (hz : z0 ≤ z1) : LnR base B b s v z0 o w := by
  refine ⟨h.1, ?_⟩
  have h2 := h.2
  cases o with
  | none => exact h2
  | some p =>
    obtain ⟨z, r⟩ := p
    obtain ⟨x, e1, e2⟩ := h2
    refine ⟨x, e1, fun hh => ?_⟩
    obtain ⟨v', hb, hv⟩ := e2 hh
    refine ⟨v', hb, hv.imp id fun ⟨g, hg, hz2⟩ => ⟨g, hg, by omega⟩⟩
theorem Ps.low {w wr w2 w3 : World} {B lr : Nat} {cs : Array Value} {b : Bk} {v : Value} (h : Ps w wr B lr cs b v) (hb : Below wr.heap.size wr w2) (hk : KeptS (fun g => g = B ∨ v.ownBlock = some g) w2 w3) : Below w.heap.size w w3 := by
  have hz := hb.size
  have hz0 := h.kp.size
  refine ⟨hk.os.trans (hb.os.trans h.kp.os), hk.tape.trans (hb.tape.trans h.kp.tape), hk.output.trans (hb.output.trans h.kp.output), Nat.le_trans (Nat.le_trans hz0 hz) hk.size, fun i hi => (hk.block i (by omega) ?_).trans ((hb.block i (by omega)).trans (h.kp.block i hi))⟩
  rintro (e | e)
  · have := h.pl; omega
  · obtain ⟨A, n, c, _, rfl, _, ho⟩ := h.bk
    have := (own_lt ho e).1
    omega
theorem Ps.at {w wr w2 w3 : World} {B lr : Nat} {cs : Array Value} {b b' : Bk} {v v' : Value} (h : Ps w wr B lr cs b v) (hb : Below wr.heap.size wr w2) (hk : KeptS (fun g => g = B ∨ v.ownBlock = some g) w2 w3) (hbk : BkAt w3 w.heap.size B b' v')
    (hv : v'.ownBlock = v.ownBlock ∨ ∃ g, v'.ownBlock = some g ∧ w2.heap.size ≤ g) : Ps w w3 B lr cs b' v' := by
  have hl := h.ln.lt
  have hz := hb.size
  have hz0 := h.kp.size
  refine ⟨hbk, (hk.block lr (by omega) ?_).trans (h.ln.next hb), ⟨hk.os.trans (hb.os.trans h.kp.os), hk.tape.trans (hb.tape.trans h.kp.tape), hk.output.trans (hb.output.trans h.kp.output), Nat.le_trans (Nat.le_trans hz0 hz) hk.size, fun i hi => ?_⟩, h.pl, fun g hg => ?_⟩
  · rintro (e | e)
    · have := h.pl; omega
    · exact (h.np lr e).2 rfl
  · refine (hk.block i (by omega) ?_).trans ((hb.block i (by omega)).trans (h.kp.block i hi))
    rintro (e | e)
    · have := h.pl; omega
    · obtain ⟨A, n, c, _, rfl, _, ho⟩ := h.bk
      have := (own_lt ho e).1
      omega
  · rcases hv with e | ⟨g', e, hg'⟩
    · exact h.np g (e ▸ hg)
    · rw [e] at hg
      injection hg with hg
      have := h.pl
      omega
def okO (o : Option (Bool × List UInt8)) : Bool := match o with
  | some (z, r) => z && r.isEmpty
  | none => false
theorem goP_hn {s : List UInt8} {r : List (List UInt8)} {b : Bk} (h : headP s = none) : goP (s :: r) 0 b = .error 1 := by unfold goP; rw [if_pos rfl, h]
theorem goP_hs {s : List UInt8} {r : List (List UInt8)} {b b' : Bk} (h : headP s = some b') : goP (s :: r) 0 b = goP r 1 b' := by
  conv => lhs; unfold goP
  rw [if_pos rfl, h]
theorem goP_ln {s : List UInt8} {r : List (List UInt8)} {b : Bk} {k : Nat} (hk : k ≠ 0) (h : lineP s = none) : goP (s :: r) k b = .error (k + 1) := by unfold goP; rw [if_neg hk, h]
theorem goP_ls {s : List UInt8} {r : List (List UInt8)} {b : Bk} {k : Nat} {x : In} (hk : k ≠ 0) (h : lineP s = some x) : goP (s :: r) k b = goP r (k + 1) { b with code := b.code ++ [x] } := by
  conv => lhs; unfold goP
  rw [if_neg hk, h]
theorem HdR.use {B : Nat} {s : List UInt8} {o : Option (Bool × List UInt8)} {w3 w4 : World} (h : HdR B s o w4) (hb : w3.heap[B]? = w4.heap[B]?) :
    ∃ y, okO o = y ∧ (y = true → ∃ b', headP s = some b' ∧ b'.code = [] ∧ Blk w3 B 28 (bkC b' none 0 0)) ∧ (y = false → headP s = none) ∧ ∃ cs, cs.size = 9 ∧ Blk w3 B 28 cs := by
  cases o with
  | none =>
    obtain ⟨h1, cs, h2, h3⟩ := h
    exact ⟨false, rfl, (fun e => by cases e), fun _ => h1, cs, h2, hb.trans h3⟩
  | some p =>
    obtain ⟨z, r⟩ := p
    obtain ⟨b', h1, h2, h3⟩ := h
    refine ⟨z && r.isEmpty, rfl, fun e => ⟨b', by rw [h2, if_pos e], h1, hb.trans h3⟩, fun e => by rw [h2, if_neg (by rw [e]; simp)], _, rfl, hb.trans h3⟩
theorem LnR.use {base B z0 : Nat} {b : Bk} {s : List UInt8} {v : Value} {o : Option (Bool × List UInt8)} {w3 w4 : World} (h : LnR base B b s v z0 o w4) (hb : ∀ g, g < w4.heap.size → (g = B ∨ v.ownBlock = some g ∨ z0 ≤ g) → w3.heap[g]? = w4.heap[g]?) :
    ∃ y, okO o = y ∧ (y = true → ∃ x v', lineP s = some x ∧ BkAt w3 base B { b with code := b.code ++ [x] } v' ∧ (v'.ownBlock = v.ownBlock ∨ ∃ g, v'.ownBlock = some g ∧ z0 ≤ g)) ∧ (y = false → lineP s = none) ∧ ∃ cs, cs.size = 9 ∧ Blk w3 B 28 cs := by
  obtain ⟨⟨cs, hc, hB⟩, h2⟩ := h
  have hBB := hb B hB.lt (.inl rfl)
  cases o with
  | none => exact ⟨false, rfl, (fun e => by cases e), fun _ => h2, cs, hc, hBB.trans hB⟩
  | some p =>
    obtain ⟨z, r⟩ := p
    obtain ⟨x, h3, h4⟩ := h2
    refine ⟨z && r.isEmpty, rfl, fun e => ?_, fun e => by rw [h3, if_neg (by rw [e]; simp)], cs, hc, hBB.trans hB⟩
    obtain ⟨v', ⟨A, n, c, e1, rfl, e3, e4⟩, hv⟩ := h4 e
    refine ⟨x, _, by rw [h3, if_pos e], ⟨A, n, c, e1, rfl, hBB.trans e3, own_stay e4 fun g hg => hb g (own_lt e4 hg).2 ?_⟩, hv⟩
    rcases hv with e5 | ⟨g', e5, h6⟩
    · exact .inr (.inl (e5 ▸ hg))
    · rw [e5] at hg
      injection hg with hg
      exact .inr (.inr (by omega))
theorem splitL_len (t : List UInt8) : ∀ y ∈ splitL t, y.length ≤ t.length := by
  obtain ⟨p, x, e1, e2⟩ := splitL_back t.length t (Nat.le_refl _)
  have hp : ∀ (p : List (List UInt8)), ∀ y ∈ p, y.length ≤ (p.flatMap (· ++ [10])).length := by
    intro p
    induction p with
    | nil => intro y hy; cases hy
    | cons a p ih =>
      intro y hy
      rw [List.flatMap_cons, List.length_append]
      rcases List.mem_cons.1 hy with rfl | hy
      · simp; omega
      · have := ih y hy; omega
  intro y hy
  rw [e1] at hy
  rw [e2, List.length_append]
  rcases List.mem_append.1 hy with h | h
  · have := hp p y h; omega
  · obtain rfl : y = x := by simpa using h
    omega
theorem split_rows (t : List UInt8) : ∃ ls : List ByteArray, Lib.splitB ⟨#[10]⟩ 0 (Lib.countB (S t) ⟨#[10]⟩) (S t) = ls ∧ ls = (splitL t).map S ∧ (splitL t).length = Lib.countB (S t) ⟨#[10]⟩ + 1 ∧ Lib.countB (S t) ⟨#[10]⟩ ≤ t.length := by
  have h1 := Lib.splitB_data ⟨#[10]⟩ 0 (Lib.countB (S t) ⟨#[10]⟩) (S t)
  have h2 : Lib.countB (S t) ⟨#[10]⟩ = t.count 10 := by
    show Lib.count (S t).data.toList [10] = _
    rw [S_list]; exact Lib.count_one 10 t
  have h3 := Lib.splitB_all ⟨#[10]⟩ (by decide) 0 _ (S t) rfl
  have h4 := Lib.countB_le ⟨#[10]⟩ (by decide) _ (S t) (Nat.le_refl _)
  rw [S_size] at h4
  have h5 : (Lib.splitB ⟨#[10]⟩ 0 (Lib.countB (S t) ⟨#[10]⟩) (S t)).map (·.data.toList) = splitL t := by
    rw [h1, h2, S_list]; rfl
  refine ⟨_, rfl, ?_, ?_, h4⟩
  · rw [← h5, List.map_map]
    symm
    refine (List.map_congr_left fun x _ => ?_).trans (List.map_id _)
    exact S_eta x
  · rw [← h5, List.length_map, h3]
theorem arr9 {cs : Array Value} (h : cs.size = 9) : ∃ v0 v1 v2 v3 v4 v5 v6 v7 v8, cs = #[v0, v1, v2, v3, v4, v5, v6, v7, v8] := by
  obtain ⟨l⟩ := cs
  match l, h with
  | [v0, v1, v2, v3, v4, v5, v6, v7, v8], _ => exact ⟨v0, v1, v2, v3, v4, v5, v6, v7, v8, rfl⟩
set_option maxRecDepth 100000 in
set_option maxHeartbeats 4000000 in
theorem parse_any (t : List UInt8) (w : World) (h : Env w) (ht : t.length < 4294967281) : Calls Tryz.prog 18 #[.string (S t)] w (PsR w t) := by
  have HE := Lib.hid h
  have HT := Lib.hid ht
  have hsz := S_size t
  clear h ht
  obtain ⟨B, hB⟩ : ∃ q, Hid (q = w.heap.size) := ⟨_, rfl⟩
  obtain ⟨w0, hw0⟩ : ∃ X, Hid (X = w.alloc (.cells (bkC zBk none 0 0) 28)) := ⟨_, rfl⟩
  have HB0 := Lib.hid (show Blk w0 B 28 (bkC zBk none 0 0) by rw [hw0.out, hB.out]; exact Blk.new _ _ _)
  have HK0 := Lib.hid (show Below w.heap.size w w0 by rw [hw0.out]; exact bAlloc _ _)
  go_enter Tryz.func18, Tryz.ntmps18
  go_upto_region 1 with fail
  rw [show w.alloc (.cells #[.int .i64 0, .string ⟨#[]⟩, .int .i64 0, .int .i64 0, .int .i64 0, .int .i64 0, .string ⟨#[]⟩, .int .i64 0, .slice none 0 0] 28) = w0 from hw0.out.symm, ← hB.out]
  clear hw0
  by_cases h1 : 16384 < t.length
  · have HPV := Lib.hid (show parseV t = (zBk, 0, 2) by unfold parseV; rw [if_pos h1])
    have q1 : decide (16384 < (t.length : Int)) = true := by simp; omega
    clear h1
    have b0 := HB0.out.cell 0
    have b1 := HB0.out.cell 1
    have b2 := HB0.out.cell 2
    have b3 := HB0.out.cell 3
    have b4 := HB0.out.cell 4
    have b5 := HB0.out.cell 5
    have b6 := HB0.out.cell 6
    have b7 := HB0.out.cell 7
    have b8 := HB0.out.cell 8
    have f0 := HB0.out.frozen 0
    have f1 := HB0.out.frozen 1
    have f2 := HB0.out.frozen 2
    have f3 := HB0.out.frozen 3
    have f4 := HB0.out.frozen 4
    have f5 := HB0.out.frozen 5
    have f6 := HB0.out.frozen 6
    have f7 := HB0.out.frozen 7
    have f8 := HB0.out.frozen 8
    have bl8 := HB0.out.lt
    simp at b0 b1 b2 b3 b4 b5 b6 b7 b8
    go_wp2_with fail
    obtain ⟨wz, hwz⟩ : ∃ X, Hid (X = ((((((((w0.setCell ⟨B, 0, none⟩ (.int .i64 0)).setCell ⟨B, 1, none⟩ (.string ⟨#[]⟩)).setCell ⟨B, 2, none⟩ (.int .i64 0)).setCell ⟨B, 3, none⟩ (.int .i64 0)).setCell ⟨B, 4, none⟩ (.int .i64 0)).setCell ⟨B, 5, none⟩ (.int .i64 0)).setCell ⟨B, 6, none⟩ (.string ⟨#[]⟩)).setCell ⟨B, 7, none⟩ (.int .i64 0)).setCell ⟨B, 8, none⟩ (.slice none 0 0)) := ⟨_, rfl⟩
    rw [← hwz.out]
    have HBZ := Lib.hid (show Blk wz B 28 (bkC zBk none 0 0) by
      rw [hwz.out]
      have h := ((((((((HB0.out.set_ 0 (.int .i64 0)).set_ 1 (.string ⟨#[]⟩)).set_ 2 (.int .i64 0)).set_ 3 (.int .i64 0)).set_ 4 (.int .i64 0)).set_ 5 (.int .i64 0)).set_ 6 (.string ⟨#[]⟩)).set_ 7 (.int .i64 0)).set_ 8 (.slice none 0 0)
      simpa using h)
    have HKZ := Lib.hid (show Below w.heap.size w wz by
      have hh : w.heap.size ≤ B := by rw [hB.out]; exact Nat.le_refl _
      rw [hwz.out]
      exact ((((((((HK0.out.setCell hh _).setCell hh _).setCell hh _).setCell hh _).setCell hh _).setCell hh _).setCell hh _).setCell hh _).setCell hh _)
    clear b0 b1 b2 b3 b4 b5 b6 b7 b8 f0 f1 f2 f3 f4 f5 f6 f7 f8 bl8
    clear hwz
    have b0 := HBZ.out.cell 0
    have b1 := HBZ.out.cell 1
    have b2 := HBZ.out.cell 2
    have b3 := HBZ.out.cell 3
    have b4 := HBZ.out.cell 4
    have b5 := HBZ.out.cell 5
    have b6 := HBZ.out.cell 6
    have b7 := HBZ.out.cell 7
    have b8 := HBZ.out.cell 8
    have f0 := HBZ.out.frozen 0
    have f1 := HBZ.out.frozen 1
    have f2 := HBZ.out.frozen 2
    have f3 := HBZ.out.frozen 3
    have f4 := HBZ.out.frozen 4
    have f5 := HBZ.out.frozen 5
    have f6 := HBZ.out.frozen 6
    have f7 := HBZ.out.frozen 7
    have f8 := HBZ.out.frozen 8
    have bl8 := HBZ.out.lt
    simp at b0 b1 b2 b3 b4 b5 b6 b7 b8
    refine bodyPost_ret (v := .tuple #[zBk.v none 0, .int .i64 0, .int .i64 2]) (by simp only [results, Tryz.results18]; go_simp) rfl ?_
    exact ⟨none, 0, 0, by rw [HPV.out] <;> rfl, by rw [HPV.out] <;> rfl, by rw [HPV.out]; exact World.ownsRow_nil _ _ _ _, HKZ.out⟩
  · have q1 : decide (16384 < (t.length : Int)) = false := by simp <;> omega
    have H1 := Lib.hid h1
    clear h1
    obtain ⟨m, hm⟩ := (HE.out.next HK0.out).mx
    have HMX := Lib.hid hm
    clear hm
    go_upto_region 3 with fail
    clear q1
    go_wp2_with fail
    refine (Tryz.strings_Split (S t) ⟨#[10]⟩ m w0 (by rw [S_size]; exact HT.out) HMX.out (by decide)).mono ?_
    rintro e w1 ⟨rfl, hw1⟩
    obtain ⟨ls, hls, hl2, hl3, hl4⟩ := split_rows t
    rw [hls] at hw1
    obtain ⟨M, hM⟩ : ∃ M, M = Lib.countB (S t) ⟨#[10]⟩ := ⟨_, rfl⟩
    rw [← hM] at hl3 hl4 ⊢
    clear hM hls
    obtain ⟨lr, hlr⟩ : ∃ q, Hid (q = w0.heap.size) := ⟨_, rfl⟩
    rw [← hlr.out]
    obtain ⟨cs, hcs⟩ : ∃ cs, Hid (cs = (ls.map Value.string).toArray) := ⟨_, rfl⟩
    have HPS := Lib.hid (show Ps w w1 B lr cs zBk (.slice none 0 0) by
      have hh := HB0.out.lt
      refine ⟨⟨none, 0, 0, rfl, rfl, ?_, World.ownsRow_nil _ _ _ _⟩, ?_, ?_, ?_, fun g hg => by cases hg⟩
      · rw [hw1]; exact HB0.out.alloc _
      · rw [hw1, hlr.out, hcs.out]; exact Blk.new _ _ _
      · rw [hw1]; exact HK0.out.alloc HK0.out.size _
      · rw [hlr.out]; exact ⟨by rw [hB.out]; exact Nat.le_refl _, hh⟩)
    have HCS := Lib.hid (show ∀ (j : Nat) s, (splitL t)[j]? = some s → cs[j]? = some (.string (S s)) by
      intro j s hs
      rw [hcs.out, hl2, List.getElem?_toArray, List.getElem?_map, List.getElem?_map, hs]
      rfl)
    have HLN := Lib.hid hl3
    have HMT := Lib.hid (show M ≤ 16384 by have := H1.out; omega)
    clear hw1 hl2 hl3 hl4 hcs hlr HMX
    have hm : M ≤ 16384 := HMT.out
    go_wp2_with fail
    go_loopw [22] (fun i wr => ∃ (j : Nat) (b : Bk) (v : Value), i = .int .i64 j ∧ j ≤ M ∧ Hid (goP (splitL t).dropLast 0 zBk = goP ((splitL t).dropLast.drop j) j b) ∧ Hid (Ps w wr B lr cs b v) ∧ Hid ((j = 0 → b = zBk ∧ v = .slice none 0 0) ∧ b.code.length ≤ j)) (fun i _ => M - (intOf i).toNat)
    case atStart => exact ⟨0, zBk, _, rfl, Nat.zero_le _, Lib.hid rfl, HPS, Lib.hid ⟨fun _ => ⟨rfl, rfl⟩, Nat.le_refl _⟩⟩
    case round =>
      obtain ⟨j, b, v, rfl, hj, HG, HP, HJ⟩ := hrel
      by_cases hlt : j < M
      · obtain ⟨sj, hsj⟩ : ∃ s, (splitL t)[j]? = some s := ⟨_, List.getElem?_eq_getElem (by have := HLN.out; omega)⟩
        have HSJ := Lib.hid hsj
        have HSL := Lib.hid (show sj.length ≤ 1000000 by have := splitL_len t sj (List.mem_of_getElem? hsj); have := H1.out; omega)
        have HDR := Lib.hid (show (splitL t).dropLast.drop j = sj :: (splitL t).dropLast.drop (j + 1) by
          have hl := HLN.out
          have hjl : j < (splitL t).dropLast.length := by rw [List.length_dropLast]; omega
          rw [List.drop_eq_getElem_cons hjl]
          congr 1
          rw [List.getElem_dropLast]
          exact (List.getElem?_eq_some_iff.1 hsj).2)
        have l0 : wr.cell? ⟨lr, j, none⟩ = some (.string (S sj)) := (HP.out.ln.cell j).trans (HCS.out j sj hsj)
        have ll := HP.out.ln.lt
        have q2 : decide ((j : Int) < (M : Int)) = true := by simp; omega
        clear hsj
        go_upto_region 7 with fail
        obtain ⟨w2, hw2⟩ : ∃ X, Hid (X = wr.alloc (.cells #[.string (S sj)] 9)) := ⟨_, rfl⟩
        obtain ⟨L, hL⟩ : ∃ X, Hid (X = wr.heap.size) := ⟨_, rfl⟩
        have HB2 := Lib.hid (show Below wr.heap.size wr w2 by rw [hw2.out]; exact bAlloc _ _)
        have HL2 := Lib.hid (show Blk w2 L 9 #[.string (S sj)] by rw [hw2.out, hL.out]; exact Blk.new _ _ _)
        have HE2 := Lib.hid (HE.out.next (bNext HP.out.kp HB2.out))
        have HWK := Lib.hid (bNext HP.out.kp HB2.out)
        have HBW := Lib.hid (show B < w2.heap.size ∧ w.heap.size ≤ B by
          have h1 := HP.out.ln.lt
          have h2 := HP.out.pl
          have h3 := HB2.out.size
          omega)
        rw [← hw2.out, ← hL.out]
        clear hw2 hL l0 ll
        have l0 := HL2.out.cell 0
        have ll := HL2.out.lt
        simp at l0
        by_cases h0 : j = 0
        · have q3 : ((j : Int) == 0) = true := by simpa using h0
          have HZ := Lib.hid (HJ.out.1 h0)
          have HJ0 := Lib.hid h0
          clear h0
          go_wp2_with fail
          refine (whole44 B sj w2 (fun g => g = B) (HdR B sj) HE2.out HSL.out (fun g hg => by rw [hg]; exact HBW.out.1) ?_).mono ?_
          · intro bl bx wa h1 h2 h3 h4
            refine (head44_any sj w wa bl bx B HE.out (HWK.out.trans (h3.mono HWK.out.size)) h4 ?_ ⟨by have := HBW.out; omega, HBW.out.2⟩).mono ?_
            · obtain ⟨A, n, c, e1, e2, e3, e4⟩ := HP.out.bk
              have hz := HZ.out
              obtain ⟨rfl, rfl⟩ := hz
              injection e2 with a1 a2 a3
              subst a1 a2 a3
              exact (e3.next HB2.out).next h3
            · rintro e wb ⟨k1, k2⟩
              exact ⟨k1, k2⟩
          · rintro e w3 ⟨o, w4, hR, hz, hbk, hk, he⟩
            obtain rfl : e = .returned (.bool (okO o)) := by rw [he]; cases o <;> rfl
            obtain ⟨y, hy, hyt, hyf, cs9, hc9, hb9⟩ := hR.use (w3 := w3) (by
              cases o with
              | none => obtain ⟨_, cs, _, h⟩ := hR; exact hbk B h.lt (by have := HBW.out; omega)
              | some p => obtain ⟨b', _, _, h⟩ := hR; exact hbk B h.lt (by have := HBW.out; omega))
            rw [hy]
            have HYT := Lib.hid hyt
            have HYF := Lib.hid hyf
            have HKS := Lib.hid hk
            obtain ⟨v0, v1, v2, v3, v4, v5, v6, v7, v8, rfl⟩ := arr9 hc9
            have HB9 := Lib.hid hb9
            clear hR hz hbk hk he hyt hyf hb9 hc9 hy l0 ll q2
            cases y
            · have HPV := Lib.hid (show parseV t = (zBk, (j : Int) + 1, 3) by
                unfold parseV
                rw [if_neg H1.out, HG.out, HDR.out, HJ0.out, goP_hn (HYF.out rfl)]
                rfl)
              have HKA := Lib.hid (show Below w.heap.size w w3 from HP.out.low HB2.out (HKS.out.more fun i _ h => .inl h))
              have b0 := HB9.out.cell 0
              have b1 := HB9.out.cell 1
              have b2 := HB9.out.cell 2
              have b3 := HB9.out.cell 3
              have b4 := HB9.out.cell 4
              have b5 := HB9.out.cell 5
              have b6 := HB9.out.cell 6
              have b7 := HB9.out.cell 7
              have b8 := HB9.out.cell 8
              have f0 := HB9.out.frozen 0
              have f1 := HB9.out.frozen 1
              have f2 := HB9.out.frozen 2
              have f3 := HB9.out.frozen 3
              have f4 := HB9.out.frozen 4
              have f5 := HB9.out.frozen 5
              have f6 := HB9.out.frozen 6
              have f7 := HB9.out.frozen 7
              have f8 := HB9.out.frozen 8
              have bl8 := HB9.out.lt
              simp at b0 b1 b2 b3 b4 b5 b6 b7 b8
              go_wp2_with fail
              obtain ⟨wz, hwz⟩ : ∃ X, Hid (X = ((((((((w3.setCell ⟨B, 0, none⟩ (.int .i64 0)).setCell ⟨B, 1, none⟩ (.string ⟨#[]⟩)).setCell ⟨B, 2, none⟩ (.int .i64 0)).setCell ⟨B, 3, none⟩ (.int .i64 0)).setCell ⟨B, 4, none⟩ (.int .i64 0)).setCell ⟨B, 5, none⟩ (.int .i64 0)).setCell ⟨B, 6, none⟩ (.string ⟨#[]⟩)).setCell ⟨B, 7, none⟩ (.int .i64 0)).setCell ⟨B, 8, none⟩ (.slice none 0 0)) := ⟨_, rfl⟩
              rw [← hwz.out]
              have HBZ := Lib.hid (show Blk wz B 28 (bkC zBk none 0 0) by
                rw [hwz.out]
                have h := ((((((((HB9.out.set_ 0 (.int .i64 0)).set_ 1 (.string ⟨#[]⟩)).set_ 2 (.int .i64 0)).set_ 3 (.int .i64 0)).set_ 4 (.int .i64 0)).set_ 5 (.int .i64 0)).set_ 6 (.string ⟨#[]⟩)).set_ 7 (.int .i64 0)).set_ 8 (.slice none 0 0)
                simpa using h)
              have HKZ := Lib.hid (show Below w.heap.size w wz by
                have hh : w.heap.size ≤ B := by rw [hB.out]; exact Nat.le_refl _
                rw [hwz.out]
                exact ((((((((HKA.out.setCell hh _).setCell hh _).setCell hh _).setCell hh _).setCell hh _).setCell hh _).setCell hh _).setCell hh _).setCell hh _)
              clear b0 b1 b2 b3 b4 b5 b6 b7 b8 f0 f1 f2 f3 f4 f5 f6 f7 f8 bl8
              clear hwz
              have b0 := HBZ.out.cell 0
              have b1 := HBZ.out.cell 1
              have b2 := HBZ.out.cell 2
              have b3 := HBZ.out.cell 3
              have b4 := HBZ.out.cell 4
              have b5 := HBZ.out.cell 5
              have b6 := HBZ.out.cell 6
              have b7 := HBZ.out.cell 7
              have b8 := HBZ.out.cell 8
              have f0 := HBZ.out.frozen 0
              have f1 := HBZ.out.frozen 1
              have f2 := HBZ.out.frozen 2
              have f3 := HBZ.out.frozen 3
              have f4 := HBZ.out.frozen 4
              have f5 := HBZ.out.frozen 5
              have f6 := HBZ.out.frozen 6
              have f7 := HBZ.out.frozen 7
              have f8 := HBZ.out.frozen 8
              have bl8 := HBZ.out.lt
              simp at b0 b1 b2 b3 b4 b5 b6 b7 b8
              refine bodyPost_ret (v := .tuple #[zBk.v none 0, .int .i64 ((j : Int) + 1), .int .i64 3]) (by simp only [results, Tryz.results18]; go_simp) rfl ?_
              exact ⟨none, 0, 0, by rw [HPV.out] <;> rfl, by rw [HPV.out] <;> rfl, by rw [HPV.out]; exact World.ownsRow_nil _ _ _ _, HKZ.out⟩
            · obtain ⟨b', e1, e2, e3⟩ := HYT.out rfl
              have HP3 := Lib.hid (show Ps w w3 B lr cs b' (.slice none 0 0) from HP.out.at HB2.out (HKS.out.more fun i _ h => .inl h) ⟨none, 0, 0, by rw [e2]; rfl, rfl, e3, by rw [e2]; exact World.ownsRow_nil _ _ _ _⟩ (.inl (by rw [HZ.out.2])))
              have HG3 := Lib.hid (show goP (splitL t).dropLast 0 zBk = goP ((splitL t).dropLast.drop (j + 1)) (j + 1) b' by rw [HG.out, HDR.out, HJ0.out, goP_hs e1])
              have HJ3 := Lib.hid (show (j + 1 = 0 → b' = zBk ∧ (Value.slice none 0 0) = .slice none 0 0) ∧ b'.code.length ≤ j + 1 from ⟨fun h => absurd h (by omega), by rw [e2]; exact Nat.zero_le _⟩)
              clear e1 e2 e3 HB9
              go_wp2_with fail
              exact ⟨⟨j + 1, b', _, by go_num, by omega, HG3, HP3, Lib.hid ⟨fun h => absurd h (by omega), HJ3.out.2⟩⟩, by simp [intOf]; omega⟩
        · have q3 : ((j : Int) == 0) = false := by simp <;> omega
          have HJ0 := Lib.hid h0
          clear h0
          obtain ⟨A, n, c, e1, rfl, e3, e4⟩ := HP.out.bk
          have HBN := Lib.hid e1
          have HBB := Lib.hid e3
          have HOO := Lib.hid e4
          clear e1 e3 e4
          go_wp2_with fail
          refine (whole47 L B sj w2 (fun g => g = B ∨ (Value.slice A n c).ownBlock = some g) (LnR w.heap.size B b sj (.slice A n c) (w2.heap.size + 1)) HE2.out HSL.out (fun g hg => ?_) ?_).mono ?_
          · rcases hg with e | e
            · rw [e]; exact HBW.out.1
            · have := (own_lt HOO.out e).2
              have := HB2.out.size
              omega
          · intro bl bx wa h1 h2 h3 h4
            have hlt : ∀ g, (Value.slice A n c).ownBlock = some g → g < w2.heap.size := fun g e => by
              have := (own_lt HOO.out e).2
              have := HB2.out.size
              omega
            have hza := h4.ln.lt
            refine (line47_any sj b A n c w wa w.heap.size bl bx L B HE.out (HWK.out.trans (h3.mono HWK.out.size)) h4 ((Blk.next HBB.out HB2.out).next h3) ⟨by have := HBW.out; omega, HBW.out.2⟩ (((HL2.out.next h3).cell 0).trans rfl) ⟨HBN.out.symm, by have := HJ.out.2; have := HBN.out; omega⟩ (own_next (own_next HOO.out HB2.out) h3)
              (fun g hg => ⟨(HP.out.np g hg).1, by have := hlt g hg; omega, by have := hlt g hg; omega⟩) ⟨Nat.le_refl _, by have := HWK.out.size; have := h3.size; omega⟩).mono ?_
            rintro e wb ⟨k1, k2⟩
            refine ⟨k1, k2.imp (fun ⟨z, r, a1, a2, a3⟩ => ⟨z, r, a1, a2, a3.mono (by omega)⟩) fun ⟨a1, a2⟩ => ⟨a1, a2.mono (by omega)⟩⟩
          · rintro e w3 ⟨o, w4, hR, hz, hbk, hk, he⟩
            obtain rfl : e = .returned (.bool (okO o)) := by rw [he]; cases o <;> rfl
            obtain ⟨y, hy, hyt, hyf, cs9, hc9, hb9⟩ := hR.use (w3 := w3) (by
              intro g hg hgg
              refine hbk g hg ?_
              rcases hgg with e | e | e
              · have := HBW.out; omega
              · have := (own_lt HOO.out e).2
                have := HB2.out.size
                omega
              · omega)
            have hy' : okO o = y := hy
            rw [hy']
            have HYT := Lib.hid hyt
            have HYF := Lib.hid hyf
            have HKS := Lib.hid hk
            obtain ⟨v0, v1, v2, v3, v4, v5, v6, v7, v8, rfl⟩ := arr9 hc9
            have HB9 := Lib.hid hb9
            clear hR hz hbk hk he hyt hyf hb9 hc9 hy hy' l0 ll q2
            cases y
            · have HPV := Lib.hid (show parseV t = (zBk, (j : Int) + 1, 3) by
                unfold parseV
                rw [if_neg H1.out, HG.out, HDR.out, goP_ln HJ0.out (HYF.out rfl)]
                rfl)
              have HKA := Lib.hid (show Below w.heap.size w w3 from HP.out.low HB2.out HKS.out)
              have b0 := HB9.out.cell 0
              have b1 := HB9.out.cell 1
              have b2 := HB9.out.cell 2
              have b3 := HB9.out.cell 3
              have b4 := HB9.out.cell 4
              have b5 := HB9.out.cell 5
              have b6 := HB9.out.cell 6
              have b7 := HB9.out.cell 7
              have b8 := HB9.out.cell 8
              have f0 := HB9.out.frozen 0
              have f1 := HB9.out.frozen 1
              have f2 := HB9.out.frozen 2
              have f3 := HB9.out.frozen 3
              have f4 := HB9.out.frozen 4
              have f5 := HB9.out.frozen 5
              have f6 := HB9.out.frozen 6
              have f7 := HB9.out.frozen 7
              have f8 := HB9.out.frozen 8
              have bl8 := HB9.out.lt
              simp at b0 b1 b2 b3 b4 b5 b6 b7 b8
              go_wp2_with fail
              obtain ⟨wz, hwz⟩ : ∃ X, Hid (X = ((((((((w3.setCell ⟨B, 0, none⟩ (.int .i64 0)).setCell ⟨B, 1, none⟩ (.string ⟨#[]⟩)).setCell ⟨B, 2, none⟩ (.int .i64 0)).setCell ⟨B, 3, none⟩ (.int .i64 0)).setCell ⟨B, 4, none⟩ (.int .i64 0)).setCell ⟨B, 5, none⟩ (.int .i64 0)).setCell ⟨B, 6, none⟩ (.string ⟨#[]⟩)).setCell ⟨B, 7, none⟩ (.int .i64 0)).setCell ⟨B, 8, none⟩ (.slice none 0 0)) := ⟨_, rfl⟩
              rw [← hwz.out]
              have HBZ := Lib.hid (show Blk wz B 28 (bkC zBk none 0 0) by
                rw [hwz.out]
                have h := ((((((((HB9.out.set_ 0 (.int .i64 0)).set_ 1 (.string ⟨#[]⟩)).set_ 2 (.int .i64 0)).set_ 3 (.int .i64 0)).set_ 4 (.int .i64 0)).set_ 5 (.int .i64 0)).set_ 6 (.string ⟨#[]⟩)).set_ 7 (.int .i64 0)).set_ 8 (.slice none 0 0)
                simpa using h)
              have HKZ := Lib.hid (show Below w.heap.size w wz by
                have hh : w.heap.size ≤ B := by rw [hB.out]; exact Nat.le_refl _
                rw [hwz.out]
                exact ((((((((HKA.out.setCell hh _).setCell hh _).setCell hh _).setCell hh _).setCell hh _).setCell hh _).setCell hh _).setCell hh _).setCell hh _)
              clear b0 b1 b2 b3 b4 b5 b6 b7 b8 f0 f1 f2 f3 f4 f5 f6 f7 f8 bl8
              clear hwz
              have b0 := HBZ.out.cell 0
              have b1 := HBZ.out.cell 1
              have b2 := HBZ.out.cell 2
              have b3 := HBZ.out.cell 3
              have b4 := HBZ.out.cell 4
              have b5 := HBZ.out.cell 5
              have b6 := HBZ.out.cell 6
              have b7 := HBZ.out.cell 7
              have b8 := HBZ.out.cell 8
              have f0 := HBZ.out.frozen 0
              have f1 := HBZ.out.frozen 1
              have f2 := HBZ.out.frozen 2
              have f3 := HBZ.out.frozen 3
              have f4 := HBZ.out.frozen 4
              have f5 := HBZ.out.frozen 5
              have f6 := HBZ.out.frozen 6
              have f7 := HBZ.out.frozen 7
              have f8 := HBZ.out.frozen 8
              have bl8 := HBZ.out.lt
              simp at b0 b1 b2 b3 b4 b5 b6 b7 b8
              refine bodyPost_ret (v := .tuple #[zBk.v none 0, .int .i64 ((j : Int) + 1), .int .i64 3]) (by simp only [results, Tryz.results18]; go_simp) rfl ?_
              exact ⟨none, 0, 0, by rw [HPV.out] <;> rfl, by rw [HPV.out] <;> rfl, by rw [HPV.out]; exact World.ownsRow_nil _ _ _ _, HKZ.out⟩
            · obtain ⟨x, v', e1, e2, e3⟩ := HYT.out rfl
              have HP3 := Lib.hid (show Ps w w3 B lr cs { b with code := b.code ++ [x] } v' from HP.out.at HB2.out HKS.out e2 (e3.imp id fun ⟨g, hg, hz⟩ => ⟨g, hg, by omega⟩))
              have HG3 := Lib.hid (show goP (splitL t).dropLast 0 zBk = goP ((splitL t).dropLast.drop (j + 1)) (j + 1) { b with code := b.code ++ [x] } by rw [HG.out, HDR.out, goP_ls HJ0.out e1])
              have HJ3 := Lib.hid (show (j + 1 = 0 → ({ b with code := b.code ++ [x] } : Bk) = zBk ∧ v' = .slice none 0 0) ∧ ({ b with code := b.code ++ [x] } : Bk).code.length ≤ j + 1 from ⟨fun h => absurd h (by omega), by have := HJ.out.2; simp; exact this⟩)
              clear e1 e2 e3 HB9
              go_wp2_with fail
              exact ⟨⟨j + 1, _, v', by go_num, by omega, HG3, HP3, HJ3⟩, by simp [intOf]; omega⟩
      · have q2 : decide ((j : Int) < (M : Int)) = false := by simp <;> omega
        obtain rfl : j = M := by omega
        have HDE := Lib.hid (show goP (splitL t).dropLast 0 zBk = .ok b by
          rw [HG.out, List.drop_of_length_le (by rw [List.length_dropLast, HLN.out]; omega)]
          rfl)
        obtain ⟨sj, hsj⟩ : ∃ s, (splitL t)[j]? = some s := ⟨_, List.getElem?_eq_getElem (by have := HLN.out; omega)⟩
        have HLA := Lib.hid (show (splitL t).getLast? = some sj by rw [List.getLast?_eq_getElem?, HLN.out, Nat.add_sub_cancel]; exact hsj)
        have l0 : wr.cell? ⟨lr, j, none⟩ = some (.string (S sj)) := (HP.out.ln.cell j).trans (HCS.out j sj hsj)
        have ll := HP.out.ln.lt
        obtain ⟨A, n, c, e1, rfl, e3, e4⟩ := HP.out.bk
        have HBN := Lib.hid e1
        have HBB := Lib.hid e3
        have HOO := Lib.hid e4
        have HKP := Lib.hid HP.out.kp
        clear e1 e3 e4 hsj
        by_cases h0 : j = 0
        · have HPV := Lib.hid (show parseV t = (zBk, (j : Int) + 1, 3) by
            unfold parseV
            rw [if_neg H1.out, HDE.out]
            show (if _ then _ else _) = _
            rw [if_pos (.inl (by rw [HLN.out, h0])), HLN.out]
            rfl)
          have q3 : ((j : Int) == 0) = true := by simpa using h0
          have q4 : (((j : Int) + 1) == 1) = true := by simp <;> omega
          clear h0
          have b0 := HBB.out.cell 0
          have b1 := HBB.out.cell 1
          have b2 := HBB.out.cell 2
          have b3 := HBB.out.cell 3
          have b4 := HBB.out.cell 4
          have b5 := HBB.out.cell 5
          have b6 := HBB.out.cell 6
          have b7 := HBB.out.cell 7
          have b8 := HBB.out.cell 8
          have f0 := HBB.out.frozen 0
          have f1 := HBB.out.frozen 1
          have f2 := HBB.out.frozen 2
          have f3 := HBB.out.frozen 3
          have f4 := HBB.out.frozen 4
          have f5 := HBB.out.frozen 5
          have f6 := HBB.out.frozen 6
          have f7 := HBB.out.frozen 7
          have f8 := HBB.out.frozen 8
          have bl8 := HBB.out.lt
          simp at b0 b1 b2 b3 b4 b5 b6 b7 b8
          go_wp2_with fail
          obtain ⟨wz, hwz⟩ : ∃ X, Hid (X = ((((((((wr.setCell ⟨B, 0, none⟩ (.int .i64 0)).setCell ⟨B, 1, none⟩ (.string ⟨#[]⟩)).setCell ⟨B, 2, none⟩ (.int .i64 0)).setCell ⟨B, 3, none⟩ (.int .i64 0)).setCell ⟨B, 4, none⟩ (.int .i64 0)).setCell ⟨B, 5, none⟩ (.int .i64 0)).setCell ⟨B, 6, none⟩ (.string ⟨#[]⟩)).setCell ⟨B, 7, none⟩ (.int .i64 0)).setCell ⟨B, 8, none⟩ (.slice none 0 0)) := ⟨_, rfl⟩
          rw [← hwz.out]
          have HBZ := Lib.hid (show Blk wz B 28 (bkC zBk none 0 0) by
            rw [hwz.out]
            have h := ((((((((HBB.out.set_ 0 (.int .i64 0)).set_ 1 (.string ⟨#[]⟩)).set_ 2 (.int .i64 0)).set_ 3 (.int .i64 0)).set_ 4 (.int .i64 0)).set_ 5 (.int .i64 0)).set_ 6 (.string ⟨#[]⟩)).set_ 7 (.int .i64 0)).set_ 8 (.slice none 0 0)
            simpa using h)
          have HKZ := Lib.hid (show Below w.heap.size w wz by
            have hh : w.heap.size ≤ B := by rw [hB.out]; exact Nat.le_refl _
            rw [hwz.out]
            exact ((((((((HKP.out.setCell hh _).setCell hh _).setCell hh _).setCell hh _).setCell hh _).setCell hh _).setCell hh _).setCell hh _).setCell hh _)
          clear b0 b1 b2 b3 b4 b5 b6 b7 b8 f0 f1 f2 f3 f4 f5 f6 f7 f8 bl8
          clear hwz
          have b0 := HBZ.out.cell 0
          have b1 := HBZ.out.cell 1
          have b2 := HBZ.out.cell 2
          have b3 := HBZ.out.cell 3
          have b4 := HBZ.out.cell 4
          have b5 := HBZ.out.cell 5
          have b6 := HBZ.out.cell 6
          have b7 := HBZ.out.cell 7
          have b8 := HBZ.out.cell 8
          have f0 := HBZ.out.frozen 0
          have f1 := HBZ.out.frozen 1
          have f2 := HBZ.out.frozen 2
          have f3 := HBZ.out.frozen 3
          have f4 := HBZ.out.frozen 4
          have f5 := HBZ.out.frozen 5
          have f6 := HBZ.out.frozen 6
          have f7 := HBZ.out.frozen 7
          have f8 := HBZ.out.frozen 8
          have bl8 := HBZ.out.lt
          simp at b0 b1 b2 b3 b4 b5 b6 b7 b8
          refine bodyPost_ret (v := .tuple #[zBk.v none 0, .int .i64 ((j : Int) + 1), .int .i64 3]) (by simp only [results, Tryz.results18]; go_simp) rfl ?_
          exact ⟨none, 0, 0, by rw [HPV.out] <;> rfl, by rw [HPV.out] <;> rfl, by rw [HPV.out]; exact World.ownsRow_nil _ _ _ _, HKZ.out⟩
        · have q3 : ((j : Int) == 0) = false := by simp <;> omega
          have q4 : (((j : Int) + 1) == 1) = false := by simp <;> omega
          have HM0 := Lib.hid h0
          have htl : (S sj).toList = sj := by rw [ByteArray.toList_eq, S_list]
          cases sj with
          | cons c0 u0 =>
            have q5 : (S (c0 :: u0)).toList.isEmpty = false := by rw [htl]; rfl
            have HPV := Lib.hid (show parseV t = (zBk, (j : Int) + 1, 3) by
              unfold parseV
              rw [if_neg H1.out, HDE.out]
              show (if _ then _ else _) = _
              rw [if_pos (.inr (by rw [HLA.out]; simp)), HLN.out]
              rfl)
            clear h0 htl
            have b0 := HBB.out.cell 0
            have b1 := HBB.out.cell 1
            have b2 := HBB.out.cell 2
            have b3 := HBB.out.cell 3
            have b4 := HBB.out.cell 4
            have b5 := HBB.out.cell 5
            have b6 := HBB.out.cell 6
            have b7 := HBB.out.cell 7
            have b8 := HBB.out.cell 8
            have f0 := HBB.out.frozen 0
            have f1 := HBB.out.frozen 1
            have f2 := HBB.out.frozen 2
            have f3 := HBB.out.frozen 3
            have f4 := HBB.out.frozen 4
            have f5 := HBB.out.frozen 5
            have f6 := HBB.out.frozen 6
            have f7 := HBB.out.frozen 7
            have f8 := HBB.out.frozen 8
            have bl8 := HBB.out.lt
            simp at b0 b1 b2 b3 b4 b5 b6 b7 b8
            go_wp2_with fail
            obtain ⟨wz, hwz⟩ : ∃ X, Hid (X = ((((((((wr.setCell ⟨B, 0, none⟩ (.int .i64 0)).setCell ⟨B, 1, none⟩ (.string ⟨#[]⟩)).setCell ⟨B, 2, none⟩ (.int .i64 0)).setCell ⟨B, 3, none⟩ (.int .i64 0)).setCell ⟨B, 4, none⟩ (.int .i64 0)).setCell ⟨B, 5, none⟩ (.int .i64 0)).setCell ⟨B, 6, none⟩ (.string ⟨#[]⟩)).setCell ⟨B, 7, none⟩ (.int .i64 0)).setCell ⟨B, 8, none⟩ (.slice none 0 0)) := ⟨_, rfl⟩
            rw [← hwz.out]
            have HBZ := Lib.hid (show Blk wz B 28 (bkC zBk none 0 0) by
              rw [hwz.out]
              have h := ((((((((HBB.out.set_ 0 (.int .i64 0)).set_ 1 (.string ⟨#[]⟩)).set_ 2 (.int .i64 0)).set_ 3 (.int .i64 0)).set_ 4 (.int .i64 0)).set_ 5 (.int .i64 0)).set_ 6 (.string ⟨#[]⟩)).set_ 7 (.int .i64 0)).set_ 8 (.slice none 0 0)
              simpa using h)
            have HKZ := Lib.hid (show Below w.heap.size w wz by
              have hh : w.heap.size ≤ B := by rw [hB.out]; exact Nat.le_refl _
              rw [hwz.out]
              exact ((((((((HKP.out.setCell hh _).setCell hh _).setCell hh _).setCell hh _).setCell hh _).setCell hh _).setCell hh _).setCell hh _).setCell hh _)
            clear b0 b1 b2 b3 b4 b5 b6 b7 b8 f0 f1 f2 f3 f4 f5 f6 f7 f8 bl8
            clear hwz
            have b0 := HBZ.out.cell 0
            have b1 := HBZ.out.cell 1
            have b2 := HBZ.out.cell 2
            have b3 := HBZ.out.cell 3
            have b4 := HBZ.out.cell 4
            have b5 := HBZ.out.cell 5
            have b6 := HBZ.out.cell 6
            have b7 := HBZ.out.cell 7
            have b8 := HBZ.out.cell 8
            have f0 := HBZ.out.frozen 0
            have f1 := HBZ.out.frozen 1
            have f2 := HBZ.out.frozen 2
            have f3 := HBZ.out.frozen 3
            have f4 := HBZ.out.frozen 4
            have f5 := HBZ.out.frozen 5
            have f6 := HBZ.out.frozen 6
            have f7 := HBZ.out.frozen 7
            have f8 := HBZ.out.frozen 8
            have bl8 := HBZ.out.lt
            simp at b0 b1 b2 b3 b4 b5 b6 b7 b8
            refine bodyPost_ret (v := .tuple #[zBk.v none 0, .int .i64 ((j : Int) + 1), .int .i64 3]) (by simp only [results, Tryz.results18]; go_simp) rfl ?_
            exact ⟨none, 0, 0, by rw [HPV.out] <;> rfl, by rw [HPV.out] <;> rfl, by rw [HPV.out]; exact World.ownsRow_nil _ _ _ _, HKZ.out⟩
          | nil =>
            have q5 : (S []).toList.isEmpty = true := by rw [htl]; rfl
            have HPQ := Lib.hid (show parseV t = if vaP b then (b, 0, 0) else (zBk, 0, 1) by
              unfold parseV
              rw [if_neg H1.out, HDE.out]
              show (if _ then _ else _) = _
              rw [if_neg (by rw [HLA.out, HLN.out]; simp; omega)])
            clear h0 htl
            have b0 := HBB.out.cell 0
            have b1 := HBB.out.cell 1
            have b2 := HBB.out.cell 2
            have b3 := HBB.out.cell 3
            have b4 := HBB.out.cell 4
            have b5 := HBB.out.cell 5
            have b6 := HBB.out.cell 6
            have b7 := HBB.out.cell 7
            have b8 := HBB.out.cell 8
            have f0 := HBB.out.frozen 0
            have f1 := HBB.out.frozen 1
            have f2 := HBB.out.frozen 2
            have f3 := HBB.out.frozen 3
            have f4 := HBB.out.frozen 4
            have f5 := HBB.out.frozen 5
            have f6 := HBB.out.frozen 6
            have f7 := HBB.out.frozen 7
            have f8 := HBB.out.frozen 8
            have bl8 := HBB.out.lt
            simp at b0 b1 b2 b3 b4 b5 b6 b7 b8
            go_wp2_with fail
            have hnn : n ≤ 1000000 := by have := HJ.out.2; have := HBN.out; have := HMT.out; omega
            have hv := valid_any b A c wr (by rw [← HBN.out]; exact own_ins HOO.out hnn)
            unfold Bk.v at hv
            rw [← HBN.out] at hv
            refine hv.mono ?_
            rintro e w2 ⟨rfl, hb2⟩
            have HB2 := Lib.hid (HBB.out.next hb2)
            have HO2 := Lib.hid (own_next HOO.out hb2)
            have HK2 := Lib.hid (bNext HKP.out hb2)
            have HNP := Lib.hid HP.out.np
            obtain ⟨y, hy⟩ : ∃ y, Hid (y = vaP b) := ⟨_, rfl⟩
            rw [← hy.out]
            rw [← hy.out] at HPQ
            clear b0 b1 b2 b3 b4 b5 b6 b7 b8 f0 f1 f2 f3 f4 f5 f6 f7 f8 bl8
            clear hb2 hv l0 ll q2 q3 q4 q5
            cases y
            · have HPV := Lib.hid (show parseV t = (zBk, 0, 1) by rw [HPQ.out]; rfl)
              have b0 := HB2.out.cell 0
              have b1 := HB2.out.cell 1
              have b2 := HB2.out.cell 2
              have b3 := HB2.out.cell 3
              have b4 := HB2.out.cell 4
              have b5 := HB2.out.cell 5
              have b6 := HB2.out.cell 6
              have b7 := HB2.out.cell 7
              have b8 := HB2.out.cell 8
              have f0 := HB2.out.frozen 0
              have f1 := HB2.out.frozen 1
              have f2 := HB2.out.frozen 2
              have f3 := HB2.out.frozen 3
              have f4 := HB2.out.frozen 4
              have f5 := HB2.out.frozen 5
              have f6 := HB2.out.frozen 6
              have f7 := HB2.out.frozen 7
              have f8 := HB2.out.frozen 8
              have bl8 := HB2.out.lt
              simp at b0 b1 b2 b3 b4 b5 b6 b7 b8
              go_wp2_with fail
              obtain ⟨wz, hwz⟩ : ∃ X, Hid (X = ((((((((w2.setCell ⟨B, 0, none⟩ (.int .i64 0)).setCell ⟨B, 1, none⟩ (.string ⟨#[]⟩)).setCell ⟨B, 2, none⟩ (.int .i64 0)).setCell ⟨B, 3, none⟩ (.int .i64 0)).setCell ⟨B, 4, none⟩ (.int .i64 0)).setCell ⟨B, 5, none⟩ (.int .i64 0)).setCell ⟨B, 6, none⟩ (.string ⟨#[]⟩)).setCell ⟨B, 7, none⟩ (.int .i64 0)).setCell ⟨B, 8, none⟩ (.slice none 0 0)) := ⟨_, rfl⟩
              rw [← hwz.out]
              have HBZ := Lib.hid (show Blk wz B 28 (bkC zBk none 0 0) by
                rw [hwz.out]
                have h := ((((((((HB2.out.set_ 0 (.int .i64 0)).set_ 1 (.string ⟨#[]⟩)).set_ 2 (.int .i64 0)).set_ 3 (.int .i64 0)).set_ 4 (.int .i64 0)).set_ 5 (.int .i64 0)).set_ 6 (.string ⟨#[]⟩)).set_ 7 (.int .i64 0)).set_ 8 (.slice none 0 0)
                simpa using h)
              have HKZ := Lib.hid (show Below w.heap.size w wz by
                have hh : w.heap.size ≤ B := by rw [hB.out]; exact Nat.le_refl _
                rw [hwz.out]
                exact ((((((((HK2.out.setCell hh _).setCell hh _).setCell hh _).setCell hh _).setCell hh _).setCell hh _).setCell hh _).setCell hh _).setCell hh _)
              clear b0 b1 b2 b3 b4 b5 b6 b7 b8 f0 f1 f2 f3 f4 f5 f6 f7 f8 bl8
              clear hwz
              have b0 := HBZ.out.cell 0
              have b1 := HBZ.out.cell 1
              have b2 := HBZ.out.cell 2
              have b3 := HBZ.out.cell 3
              have b4 := HBZ.out.cell 4
              have b5 := HBZ.out.cell 5
              have b6 := HBZ.out.cell 6
              have b7 := HBZ.out.cell 7
              have b8 := HBZ.out.cell 8
              have f0 := HBZ.out.frozen 0
              have f1 := HBZ.out.frozen 1
              have f2 := HBZ.out.frozen 2
              have f3 := HBZ.out.frozen 3
              have f4 := HBZ.out.frozen 4
              have f5 := HBZ.out.frozen 5
              have f6 := HBZ.out.frozen 6
              have f7 := HBZ.out.frozen 7
              have f8 := HBZ.out.frozen 8
              have bl8 := HBZ.out.lt
              simp at b0 b1 b2 b3 b4 b5 b6 b7 b8
              refine bodyPost_ret (v := .tuple #[zBk.v none 0, .int .i64 0, .int .i64 1]) (by simp only [results, Tryz.results18]; go_simp) rfl ?_
              exact ⟨none, 0, 0, by rw [HPV.out] <;> rfl, by rw [HPV.out] <;> rfl, by rw [HPV.out]; exact World.ownsRow_nil _ _ _ _, HKZ.out⟩
            · have HPV := Lib.hid (show parseV t = (b, 0, 0) by rw [HPQ.out]; rfl)
              have b0 := HB2.out.cell 0
              have b1 := HB2.out.cell 1
              have b2 := HB2.out.cell 2
              have b3 := HB2.out.cell 3
              have b4 := HB2.out.cell 4
              have b5 := HB2.out.cell 5
              have b6 := HB2.out.cell 6
              have b7 := HB2.out.cell 7
              have b8 := HB2.out.cell 8
              have f0 := HB2.out.frozen 0
              have f1 := HB2.out.frozen 1
              have f2 := HB2.out.frozen 2
              have f3 := HB2.out.frozen 3
              have f4 := HB2.out.frozen 4
              have f5 := HB2.out.frozen 5
              have f6 := HB2.out.frozen 6
              have f7 := HB2.out.frozen 7
              have f8 := HB2.out.frozen 8
              have bl8 := HB2.out.lt
              simp at b0 b1 b2 b3 b4 b5 b6 b7 b8
              go_wp2_with fail
              obtain ⟨wz, hwz⟩ : ∃ X, Hid (X = ((((((((w2.setCell ⟨B, 0, none⟩ (.int .i64 b.id)).setCell ⟨B, 1, none⟩ (.string b.pn)).setCell ⟨B, 2, none⟩ (.int .i64 b.par)).setCell ⟨B, 3, none⟩ (.int .i64 b.paux)).setCell ⟨B, 4, none⟩ (.int .i64 b.kk)).setCell ⟨B, 5, none⟩ (.int .i64 b.kn)).setCell ⟨B, 6, none⟩ (.string b.knm)).setCell ⟨B, 7, none⟩ (.int .i64 b.kar)).setCell ⟨B, 8, none⟩ (.slice A n c)) := ⟨_, rfl⟩
              rw [← hwz.out]
              have HBZ := Lib.hid (show Blk wz B 28 (bkC b A n c) by
                rw [hwz.out]
                have h := ((((((((HB2.out.set_ 0 (.int .i64 b.id)).set_ 1 (.string b.pn)).set_ 2 (.int .i64 b.par)).set_ 3 (.int .i64 b.paux)).set_ 4 (.int .i64 b.kk)).set_ 5 (.int .i64 b.kn)).set_ 6 (.string b.knm)).set_ 7 (.int .i64 b.kar)).set_ 8 (.slice A n c)
                simpa using h)
              have HKZ := Lib.hid (show Below w.heap.size w wz by
                have hh : w.heap.size ≤ B := by rw [hB.out]; exact Nat.le_refl _
                rw [hwz.out]
                exact ((((((((HK2.out.setCell hh _).setCell hh _).setCell hh _).setCell hh _).setCell hh _).setCell hh _).setCell hh _).setCell hh _).setCell hh _)
              have HOZ := Lib.hid (show wz.ownsRow w.heap.size 34 6 (.slice A n c) n (aCs b.code) by
                rw [hwz.out]
                refine own_stay HO2.out fun g hg => ?_
                have hgb : g ≠ B := (HNP.out g hg).1
                rw [heap_setCell_other _ _ _ _ hgb, heap_setCell_other _ _ _ _ hgb, heap_setCell_other _ _ _ _ hgb, heap_setCell_other _ _ _ _ hgb, heap_setCell_other _ _ _ _ hgb, heap_setCell_other _ _ _ _ hgb, heap_setCell_other _ _ _ _ hgb, heap_setCell_other _ _ _ _ hgb, heap_setCell_other _ _ _ _ hgb])
              clear b0 b1 b2 b3 b4 b5 b6 b7 b8 f0 f1 f2 f3 f4 f5 f6 f7 f8 bl8
              clear hwz
              have b0 := HBZ.out.cell 0
              have b1 := HBZ.out.cell 1
              have b2 := HBZ.out.cell 2
              have b3 := HBZ.out.cell 3
              have b4 := HBZ.out.cell 4
              have b5 := HBZ.out.cell 5
              have b6 := HBZ.out.cell 6
              have b7 := HBZ.out.cell 7
              have b8 := HBZ.out.cell 8
              have f0 := HBZ.out.frozen 0
              have f1 := HBZ.out.frozen 1
              have f2 := HBZ.out.frozen 2
              have f3 := HBZ.out.frozen 3
              have f4 := HBZ.out.frozen 4
              have f5 := HBZ.out.frozen 5
              have f6 := HBZ.out.frozen 6
              have f7 := HBZ.out.frozen 7
              have f8 := HBZ.out.frozen 8
              have bl8 := HBZ.out.lt
              simp at b0 b1 b2 b3 b4 b5 b6 b7 b8
              refine bodyPost_ret (v := .tuple #[.agg (bkC b A n c), .int .i64 0, .int .i64 0]) (by simp only [results, Tryz.results18]; go_simp) rfl ?_
              refine ⟨A, n, c, by rw [HPV.out]; exact HBN.out, ?_, by rw [HPV.out]; exact HOZ.out, HKZ.out⟩
              rw [HPV.out]
              show _ = Ending.returned (.tuple #[b.v A c, .int .i64 0, .int .i64 0])
              unfold Bk.v
              rw [← HBN.out]
end
end Go.Proofs.YtbipeakinmbdiaaGreatDoor
