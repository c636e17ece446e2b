/-
  Walk: a binding more.
-/
import Derived.Test.YtpkpdjekoghkcaaUb
import Derived.Maps.AppendAt
namespace Go.Proofs.Ytpkpdjekoghkcaa
open Go.RowKit

theorem info80 : (Try.prog.info? 80).map (fun i => (i.zero, i.size, i.bytes)) = some (some (.agg #[.int .i64 0, .int .i64 0, .int .i64 0, .string .empty, .slice none 0 0]), 5, 64) := by kernel_rfl
@[reducible] def Bi.cs (x : Bi) : List Value := [.int .i64 x.var, .int .i64 x.t.kind, .int .i64 x.t.n, .string x.t.name, .slice x.A x.t.args.length x.c]
def biCs : List Bi → List Value
  | [] => []
  | x :: l => .int .i64 x.var :: .int .i64 x.t.kind :: .int .i64 x.t.n :: .string x.t.name :: .slice x.A x.t.args.length x.c :: biCs l
theorem biCs_snoc (l : List Bi) (r : Bi) : biCs (l ++ [r]) = biCs l ++ r.cs := by
  induction l with
  | nil => rfl
  | cons x t ih => simp only [List.cons_append, biCs, ih]
theorem biCs_len (l : List Bi) : (biCs l).length = l.length * 5 := by
  induction l with
  | nil => rfl
  | cons x t ih => simp only [biCs, List.length_cons, ih]; omega
theorem biCs_at {l : List Bi} {i : Nat} {r : Bi} (h : l[i]? = some r) : (biCs l)[i * 5]? = some (.int .i64 r.var) ∧ (biCs l)[i * 5 + 1]? = some (.int .i64 r.t.kind) ∧ (biCs l)[i * 5 + 2]? = some (.int .i64 r.t.n) ∧ (biCs l)[i * 5 + 3]? = some (.string r.t.name) ∧ (biCs l)[i * 5 + 4]? = some (.slice r.A r.t.args.length r.c) := by
  induction l generalizing i with
  | nil => simp at h
  | cons x t ih =>
    cases i with
    | zero => simp at h; subst h; simp [biCs]
    | succ i =>
      simp at h
      have h1 := ih h
      rw [show (i + 1) * 5 = i * 5 + 1 + 1 + 1 + 1 + 1 by omega]
      simpa [biCs] using h1
/-- rows made by a call read as bindings -/
def BsRow (w : World) (F : Nat → Prop) (A : Option Addr) (bs : List Bi) : Prop := 0 < bs.length → ∃ b off, A = some ⟨b, off, none⟩ ∧ F b ∧ ∀ i x, bs[i]? = some x → w.cell? ⟨b, off + i * 5, none⟩ = some (.int .i64 x.var) ∧ TmCells w b (off + i * 5 + 1) x.t x.A x.c
theorem own_bs {w : World} {B c : Nat} {A : Option Addr} {l : List Bi} (h : w.ownsRow B 80 5 (.slice A l.length c) l.length (biCs l)) : BsRow w (fun b => B ≤ b ∧ b < w.heap.size) A l := fun hn => by
  obtain ⟨g, cap, e⟩ := own_some h hn
  injection e with e1 _ e2
  subst e1 e2
  have hc : ∀ {j : Nat} {u : Value}, (biCs l)[j]? = some u → w.cell? ⟨g, j, none⟩ = some u := fun {j u} hj => by
    have h1 := h.cells (g := g) rfl j u hj
    cases j with
    | zero => simpa [Addr.add] using h1
    | succ j => simpa [Addr.add] using h1
  refine ⟨g, 0, rfl, h.lt g rfl, fun i x hx => ?_⟩
  obtain ⟨r0, r1, r2, r3, r4⟩ := biCs_at hx
  rw [Nat.zero_add]
  exact ⟨hc r0, hc r1, hc r2, hc r3, hc r4⟩
/-- while bindings are listed anew -/
structure BnR (w : World) (bs : List Bi) (x0 : Bi) (q : Nat) (k : Nat) (bl : Bool) (V : Value) (os : List Bi) (wr : World) : Prop where
  below : Below w.heap.size w wr
  box : Blk wr q 47 #[.int .i64 x0.t.kind, .int .i64 x0.t.n, .string x0.t.name, .slice x0.A x0.t.args.length x0.c]
  row : wr.ownsRow w.heap.size 80 5 V os.length (biCs os)
  len : os.length = k + if bl then 1 else 0
  mem : ∀ x ∈ os, x ∈ bs ∨ x = x0
theorem BnR.add {w wr w2 w3 : World} {bs : List Bi} {x0 x : Bi} {q k k' : Nat} {bl bl' : Bool} {V V' : Value} {os : List Bi} (h : BnR w bs x0 q k bl V os wr) (hb : Below wr.heap.size wr w2) (ho : w3.ownsRow w.heap.size 80 5 V' (os.length + 1) (biCs os ++ x.cs)) (hg : w2.grownBy w3 V.ownBlock)
    (hx : x ∈ bs ∨ x = x0) (hk : (k' + if bl' then 1 else 0) = (k + if bl then 1 else 0) + 1) (_hqw : q < wr.heap.size) : BnR w bs x0 q k' bl' V' (os ++ [x]) w3 := by
  have hz := h.below.size
  refine ⟨?_, ?_, ?_, by rw [List.length_append, h.len, hk]; rfl, fun y hy => ?_⟩
  · exact (h.below.trans (hb.mono hz)).grown hg (Nat.le_trans hz hb.size) (fun g hg' => (h.row.lt g hg').1)
  · exact (h.box.below hb h.box.lt).grown hg (fun e => own_ne h.row h.box (by decide) e)
  · rw [biCs_snoc, List.length_append]; exact ho
  · rcases List.mem_append.1 hy with h1 | h1
    · exact h.mem y h1
    · rw [List.mem_singleton] at h1; subst h1; exact hx
set_option maxHeartbeats 4000000 in
theorem bound_any {A : Option Addr} {c : Nat} (bs : List Bi) (v : Int) (t : Tm) (At : Option Addr) (ct : Nat) (w : World) (h : BsAt w (Old w.heap.size) A bs) (hl : bs.length ≤ 1000000000) :
    Calls Try.prog 63 #[.slice A bs.length c, .int .i64 v, t.v At ct] w fun e w' => (∃ A' c' bs', e = .returned (.slice A' bs'.length c') ∧ BsRow w' (fun b => w.heap.size ≤ b ∧ b < w'.heap.size) A' bs' ∧ bs'.length ≤ bs.length + 1 ∧ ∀ x ∈ bs', x ∈ bs ∨ x = ⟨v, t, At, ct⟩) ∧ Below w.heap.size w w' := by
  obtain ⟨i1, hi1, hz1, hy1, hb1'⟩ := info_parts info80
  have H := Lib.hid h
  obtain ⟨W, HW⟩ : ∃ X, Hid (X = w.alloc (.cells #[.int .i64 t.kind, .int .i64 t.n, .string t.name, .slice At t.args.length ct] 47)) := ⟨_, rfl⟩
  have hbW : Below w.heap.size w W := by rw [HW.out]; exact bAlloc w _
  obtain ⟨q, hq⟩ : ∃ q, Hid (q = w.heap.size) := ⟨_, rfl⟩
  have hk0 : Blk W q 47 #[.int .i64 t.kind, .int .i64 t.n, .string t.name, .slice At t.args.length ct] := by rw [HW.out, hq.out]; exact Blk.new w _ _
  have HR := Lib.hid (show BnR w bs ⟨v, t, At, ct⟩ q 0 false (.slice none 0 0) [] W from ⟨hbW, hk0, World.ownsRow_nil _ _ _ _, rfl, fun x hx => by cases hx⟩)
  have hfin : ∀ (wr : World) (V : Value) (os : List Bi) (k : Nat) (bl : Bool) (A' : Option Addr) (c' : Nat), BnR w bs ⟨v, t, At, ct⟩ q k bl V os wr → V = .slice A' os.length c' → BsRow wr (fun b => w.heap.size ≤ b ∧ b < wr.heap.size) A' os := by
    intro wr V os k bl A' c' hr hV
    subst hV
    exact own_bs hr.row
  have HFIN := Lib.hid hfin
  clear h hbW hk0 hfin
  go_enter Try.func63, Try.ntmps63
  go_upto_region 1 with fail
  rw [← HW.out, ← hq.out]
  clear HW
  go_wp2_with fail
  go_loopw [7, 8, 9] (fun o p i wr => ∃ (k : Nat) (bl : Bool) (os : List Bi), k ≤ bs.length ∧ i = .int .i64 (k : Int) ∧ p = .bool bl ∧ Hid (BnR w bs ⟨v, t, At, ct⟩ q k bl o os wr)) (fun _ _ i _ => bs.length - (intOf i).toNat)
  case atStart => exact ⟨0, false, [], by omega, rfl, rfl, HR⟩
  case round =>
    clear HR
    obtain ⟨k, bl, os, hk, rfl, rfl, HR⟩ := hrel
    have hrow := HR.out.row
    obtain ⟨V, cv, rfl⟩ := own_form hrow
    have e0 := HR.out.box.cell 0
    have e1 := HR.out.box.cell 1
    have e2 := HR.out.box.cell 2
    have e3 := HR.out.box.cell 3
    have el := HR.out.box.lt
    have hz := HR.out.below.size
    have hol : os.length ≤ k + 1 := by rw [HR.out.len]; split <;> omega
    simp at e0 e1 e2 e3
    clear hrow
    by_cases hlt : k < bs.length
    · obtain ⟨b, off, x, rfl, hb, hx, y0, ⟨y1, y2, y3, y4⟩, hya⟩ := H.out.at hlt
      have hb0 : b < w.heap.size := hb
      have hbl : b < wr.heap.size := Nat.lt_of_lt_of_le hb0 hz
      have z0 := (HR.out.below.cell (p := ⟨b, _, none⟩) hb0).trans y0
      have z1 := (HR.out.below.cell (p := ⟨b, _, none⟩) hb0).trans y1
      have z2 := (HR.out.below.cell (p := ⟨b, _, none⟩) hb0).trans y2
      have z3 := (HR.out.below.cell (p := ⟨b, _, none⟩) hb0).trans y3
      have z4 := (HR.out.below.cell (p := ⟨b, _, none⟩) hb0).trans y4
      have HX := Lib.hid hx
      clear hx y0 y1 y2 y3 y4 hya hb
      cases bl
      · by_cases hv : v < x.var
        · have hvb : decide (x.var > v) = true := by simp; omega
          have hvc : decide (v < x.var) = true := by simp; omega
          go_wp2_with (at_builtin; refine wpList_append_own_at _ rfl (.tmp 27) (.tmp 31) 54 rfl w.heap.size 80 i1 _ 5 64 Try.underlying54 hi1 hz1 hy1 hb1' rfl (by decide) (.slice V os.length cv) os.length (biCs os) rfl (own_below HR.out.row (bAlloc _ _)) ⟨wr.heap.size, 0, none⟩ 1 1 [.int .i64 v, .int .i64 t.kind, .int .i64 t.n, .string t.name, .slice At t.args.length ct] rfl rfl ?a1 ?b1 ?c1 ?d1 ?e1 ?_)
          try case a1 =>
            have hbk := Blk.new wr 80 #[.int .i64 v, .int .i64 t.kind, .int .i64 t.n, .string t.name, .slice At t.args.length ct]
            intro j u hj
            have h1 := hbk.cell j
            rw [show (⟨wr.heap.size, 0, none⟩ : Addr).add j = ⟨wr.heap.size, j, none⟩ by cases j <;> simp [Addr.add]]
            rw [h1]
            simpa using hj
          try case b1 =>
            first
              | exact ⟨rfl, rfl, rfl, rfl, rfl⟩
              | (intro u hu
                 simp only [List.mem_cons, List.not_mem_nil, or_false] at hu
                 rcases hu with rfl | rfl | rfl | rfl | rfl <;> rfl)
          try case c1 => first | (unfold maxLen; omega) | (simp; unfold maxLen; omega)
          try case d1 => first | omega | (simp; omega)
          try case e1 => first | omega | (simp; omega)
          intro v1 w1 ho1 hg1 _ _
          have HR1 := Lib.hid (HR.out.add (k' := k) (bl' := true) (x := ⟨v, t, At, ct⟩) (bAlloc _ _) ho1 hg1 (.inr rfl) (by simp) el)
          clear ho1 hg1
          obtain ⟨os1, hos1⟩ : ∃ l, l = os ++ [(⟨v, t, At, ct⟩ : Bi)] := ⟨_, rfl⟩
          rw [← hos1] at HR1
          clear hos1
          obtain ⟨V1, cv1, rfl⟩ := own_form HR1.out.row
          have hzz1 := HR1.out.below.size
          have hbl1 : b < w1.heap.size := Nat.lt_of_lt_of_le hb0 hzz1
          have el := HR1.out.box.lt
          have x0 := (HR1.out.below.cell (p := ⟨b, _, none⟩) hb0).trans ((HR.out.below.cell (p := ⟨b, _, none⟩) hb0).symm.trans z0)
          have x1 := (HR1.out.below.cell (p := ⟨b, _, none⟩) hb0).trans ((HR.out.below.cell (p := ⟨b, _, none⟩) hb0).symm.trans z1)
          have x2 := (HR1.out.below.cell (p := ⟨b, _, none⟩) hb0).trans ((HR.out.below.cell (p := ⟨b, _, none⟩) hb0).symm.trans z2)
          have x3 := (HR1.out.below.cell (p := ⟨b, _, none⟩) hb0).trans ((HR.out.below.cell (p := ⟨b, _, none⟩) hb0).symm.trans z3)
          have x4 := (HR1.out.below.cell (p := ⟨b, _, none⟩) hb0).trans ((HR.out.below.cell (p := ⟨b, _, none⟩) hb0).symm.trans z4)
          have hol1 : os1.length ≤ k + 1 := by rw [HR1.out.len]; simp
          clear z0 z1 z2 z3 z4
          go_wp2_with (at_builtin; refine wpList_append_own_at _ rfl (.tmp 33) (.tmp 38) 54 rfl w.heap.size 80 i1 _ 5 64 Try.underlying54 hi1 hz1 hy1 hb1' rfl (by decide) (.slice V1 os1.length cv1) os1.length (biCs os1) rfl (own_below HR1.out.row (bAlloc _ _)) ⟨w1.heap.size, 0, none⟩ 1 1 [.int .i64 x.var, .int .i64 x.t.kind, .int .i64 x.t.n, .string x.t.name, .slice x.A x.t.args.length x.c] rfl rfl ?a2 ?b2 ?c2 ?d2 ?e2 ?_)
          try case a2 =>
            have hbk := Blk.new w1 80 #[.int .i64 x.var, .int .i64 x.t.kind, .int .i64 x.t.n, .string x.t.name, .slice x.A x.t.args.length x.c]
            intro j u hj
            have h1 := hbk.cell j
            rw [show (⟨w1.heap.size, 0, none⟩ : Addr).add j = ⟨w1.heap.size, j, none⟩ by cases j <;> simp [Addr.add]]
            rw [h1]
            simpa using hj
          try case b2 =>
            first
              | exact ⟨rfl, rfl, rfl, rfl, rfl⟩
              | (intro u hu
                 simp only [List.mem_cons, List.not_mem_nil, or_false] at hu
                 rcases hu with rfl | rfl | rfl | rfl | rfl <;> rfl)
          try case c2 => first | (unfold maxLen; omega) | (simp; unfold maxLen; omega)
          try case d2 => first | omega | (simp; omega)
          try case e2 => first | omega | (simp; omega)
          intro v2 w2 ho2 hg2 _ _
          have HR2 := Lib.hid (HR1.out.add (k' := k + 1) (bl' := true) (x := x) (bAlloc _ _) ho2 hg2 (.inl (List.mem_of_getElem? HX.out)) (by simp) el)
          clear ho2 hg2
          obtain ⟨os2, hos2⟩ : ∃ l, l = os1 ++ [(x : Bi)] := ⟨_, rfl⟩
          rw [← hos2] at HR2
          clear hos2
          obtain ⟨V2, cv2, rfl⟩ := own_form HR2.out.row
          go_wp2_with fail
          exact ⟨⟨k + 1, true, _, by omega, by go_num, rfl, HR2⟩, by simp [intOf]; omega⟩

        · have hvb : decide (x.var > v) = false := by simp; omega
          have hvc : decide (v < x.var) = false := by simp; omega
          go_wp2_with (at_builtin; refine wpList_append_own_at _ rfl (.tmp 33) (.tmp 38) 54 rfl w.heap.size 80 i1 _ 5 64 Try.underlying54 hi1 hz1 hy1 hb1' rfl (by decide) (.slice V os.length cv) os.length (biCs os) rfl (own_below HR.out.row (bAlloc _ _)) ⟨wr.heap.size, 0, none⟩ 1 1 [.int .i64 x.var, .int .i64 x.t.kind, .int .i64 x.t.n, .string x.t.name, .slice x.A x.t.args.length x.c] rfl rfl ?a3 ?b3 ?c3 ?d3 ?e3 ?_)
          try case a3 =>
            have hbk := Blk.new wr 80 #[.int .i64 x.var, .int .i64 x.t.kind, .int .i64 x.t.n, .string x.t.name, .slice x.A x.t.args.length x.c]
            intro j u hj
            have h1 := hbk.cell j
            rw [show (⟨wr.heap.size, 0, none⟩ : Addr).add j = ⟨wr.heap.size, j, none⟩ by cases j <;> simp [Addr.add]]
            rw [h1]
            simpa using hj
          try case b3 =>
            first
              | exact ⟨rfl, rfl, rfl, rfl, rfl⟩
              | (intro u hu
                 simp only [List.mem_cons, List.not_mem_nil, or_false] at hu
                 rcases hu with rfl | rfl | rfl | rfl | rfl <;> rfl)
          try case c3 => first | (unfold maxLen; omega) | (simp; unfold maxLen; omega)
          try case d3 => first | omega | (simp; omega)
          try case e3 => first | omega | (simp; omega)
          intro v3 w3 ho3 hg3 _ _
          have HR3 := Lib.hid (HR.out.add (k' := k + 1) (bl' := false) (x := x) (bAlloc _ _) ho3 hg3 (.inl (List.mem_of_getElem? HX.out)) (by simp <;> omega) el)
          clear ho3 hg3
          obtain ⟨os3, hos3⟩ : ∃ l, l = os ++ [(x : Bi)] := ⟨_, rfl⟩
          rw [← hos3] at HR3
          clear hos3
          obtain ⟨V3, cv3, rfl⟩ := own_form HR3.out.row
          go_wp2_with fail
          exact ⟨⟨k + 1, false, _, by omega, by go_num, rfl, HR3⟩, by simp [intOf]; omega⟩

      · go_wp2_with (at_builtin; refine wpList_append_own_at _ rfl (.tmp 33) (.tmp 38) 54 rfl w.heap.size 80 i1 _ 5 64 Try.underlying54 hi1 hz1 hy1 hb1' rfl (by decide) (.slice V os.length cv) os.length (biCs os) rfl (own_below HR.out.row (bAlloc _ _)) ⟨wr.heap.size, 0, none⟩ 1 1 [.int .i64 x.var, .int .i64 x.t.kind, .int .i64 x.t.n, .string x.t.name, .slice x.A x.t.args.length x.c] rfl rfl ?a4 ?b4 ?c4 ?d4 ?e4 ?_)
        try case a4 =>
          have hbk := Blk.new wr 80 #[.int .i64 x.var, .int .i64 x.t.kind, .int .i64 x.t.n, .string x.t.name, .slice x.A x.t.args.length x.c]
          intro j u hj
          have h1 := hbk.cell j
          rw [show (⟨wr.heap.size, 0, none⟩ : Addr).add j = ⟨wr.heap.size, j, none⟩ by cases j <;> simp [Addr.add]]
          rw [h1]
          simpa using hj
        try case b4 =>
          first
            | exact ⟨rfl, rfl, rfl, rfl, rfl⟩
            | (intro u hu
               simp only [List.mem_cons, List.not_mem_nil, or_false] at hu
               rcases hu with rfl | rfl | rfl | rfl | rfl <;> rfl)
        try case c4 => first | (unfold maxLen; omega) | (simp; unfold maxLen; omega)
        try case d4 => first | omega | (simp; omega)
        try case e4 => first | omega | (simp; omega)
        intro v4 w4 ho4 hg4 _ _
        have HR4 := Lib.hid (HR.out.add (k' := k + 1) (bl' := true) (x := x) (bAlloc _ _) ho4 hg4 (.inl (List.mem_of_getElem? HX.out)) (by simp <;> omega) el)
        clear ho4 hg4
        obtain ⟨os4, hos4⟩ : ∃ l, l = os ++ [(x : Bi)] := ⟨_, rfl⟩
        rw [← hos4] at HR4
        clear hos4
        obtain ⟨V4, cv4, rfl⟩ := own_form HR4.out.row
        go_wp2_with fail
        exact ⟨⟨k + 1, true, _, by omega, by go_num, rfl, HR4⟩, by simp [intOf]; omega⟩

    · obtain rfl : k = bs.length := by omega
      cases bl
      · go_wp2_with (at_builtin; refine wpList_append_own_at _ rfl (.tmp 42) (.tmp 46) 54 rfl w.heap.size 80 i1 _ 5 64 Try.underlying54 hi1 hz1 hy1 hb1' rfl (by decide) (.slice V os.length cv) os.length (biCs os) rfl (own_below HR.out.row (bAlloc _ _)) ⟨wr.heap.size, 0, none⟩ 1 1 [.int .i64 v, .int .i64 t.kind, .int .i64 t.n, .string t.name, .slice At t.args.length ct] rfl rfl ?a5 ?b5 ?c5 ?d5 ?e5 ?_)
        try case a5 =>
          have hbk := Blk.new wr 80 #[.int .i64 v, .int .i64 t.kind, .int .i64 t.n, .string t.name, .slice At t.args.length ct]
          intro j u hj
          have h1 := hbk.cell j
          rw [show (⟨wr.heap.size, 0, none⟩ : Addr).add j = ⟨wr.heap.size, j, none⟩ by cases j <;> simp [Addr.add]]
          rw [h1]
          simpa using hj
        try case b5 =>
          first
            | exact ⟨rfl, rfl, rfl, rfl, rfl⟩
            | (intro u hu
               simp only [List.mem_cons, List.not_mem_nil, or_false] at hu
               rcases hu with rfl | rfl | rfl | rfl | rfl <;> rfl)
        try case c5 => first | (unfold maxLen; omega) | (simp; unfold maxLen; omega)
        try case d5 => first | omega | (simp; omega)
        try case e5 => first | omega | (simp; omega)
        intro v5 w5 ho5 hg5 _ _
        have HR5 := Lib.hid (HR.out.add (k' := bs.length) (bl' := true) (x := ⟨v, t, At, ct⟩) (bAlloc _ _) ho5 hg5 (.inr rfl) (by simp) el)
        clear ho5 hg5
        obtain ⟨os5, hos5⟩ : ∃ l, l = os ++ [(⟨v, t, At, ct⟩ : Bi)] := ⟨_, rfl⟩
        rw [← hos5] at HR5
        clear hos5
        obtain ⟨V5, cv5, rfl⟩ := own_form HR5.out.row
        go_wp2_with fail
        go_ret
        exact ⟨⟨_, _, _, rfl, HFIN.out _ _ _ _ _ _ _ HR5.out rfl, by rw [HR5.out.len]; simp, HR5.out.mem⟩, HR5.out.below⟩

      · go_wp2_with fail
        go_ret
        exact ⟨⟨_, _, os, rfl, HFIN.out _ _ _ _ _ _ _ HR.out rfl, by rw [HR.out.len]; simp, HR.out.mem⟩, HR.out.below⟩
end Go.Proofs.Ytpkpdjekoghkcaa
