/-
  Terms that are equal as trees: the program's and the reference's comparison.
-/
import Derived.Test.YtcagaaacfcpoeaaGreatTd
import Derived.Test.YtcagaaacfcpoeaaGreatTk
import Derived.Lib.Hide
namespace Go.Proofs.YtcagaaacfcpoeaaGreat
open Go.RowKit

/-- whether two trees are equal -/
def idT : Tm → Tm → Bool
  | .mk k n s l, b => k == b.kind && n == b.n && s.toList == b.name.toList && l.length == b.args.length && go l b.args
where go : List Tm → List Tm → Bool
  | [], _ => true
  | x :: r, m => match m with
    | [] => true
    | y :: t => idT x y && go r t
theorem idT_eq (a b : Tm) : idT a b = (a.kind == b.kind && a.n == b.n && a.name.toList == b.name.toList && a.args.length == b.args.length && idT.go a.args b.args) := by
  cases a
  simp only [idT, Tm.kind, Tm.n, Tm.name, Tm.args]
theorem idT_refl (N : Nat) : ∀ t : Tm, cnt t < N → idT t t = true := by
  induction N with
  | zero => intro t h; omega
  | succ N ih =>
    intro t h
    have hgo : ∀ l : List Tm, cnt.go l < N → idT.go l l = true := fun l => by
      induction l with
      | nil => intro _; rfl
      | cons x r ihr =>
        intro h
        simp only [cnt.go] at h
        simp only [idT.go, Bool.and_eq_true]
        exact ⟨ih x (by omega), ihr (by omega)⟩
    have h2 := cnt_eq t
    rw [idT_eq]
    simp [hgo t.args (by omega)]
theorem idT_iff (N : Nat) : ∀ a b : Tm, cnt a < N → idT a b = true → a = b := by
  induction N with
  | zero => intro a b h; omega
  | succ N ih =>
    intro a b h hid
    have hgo : ∀ l m : List Tm, cnt.go l < N → l.length = m.length → idT.go l m = true → l = m := fun l => by
      induction l with
      | nil => intro m _ hl _; cases m with
        | nil => rfl
        | cons y t => simp at hl
      | cons x r ihr =>
        intro m h hl hi
        cases m with
        | nil => simp at hl
        | cons y t =>
          simp only [cnt.go] at h
          simp only [idT.go, Bool.and_eq_true] at hi
          rw [ih x y (by omega) hi.1, ihr t (by omega) (by simpa using hl) hi.2]
    have h2 := cnt_eq a
    rw [idT_eq] at hid
    simp only [Bool.and_eq_true, beq_iff_eq] at hid
    obtain ⟨⟨⟨⟨h1, h3⟩, h4⟩, h5⟩, h6⟩ := hid
    have h7 := hgo a.args b.args (by omega) h5 h6
    have h8 := bytes_inj h4
    obtain ⟨k, n, s, l⟩ := a
    obtain ⟨k', n', s', l'⟩ := b
    simp only [Tm.kind, Tm.n, Tm.name, Tm.args] at h1 h3 h7 h8
    rw [h1, h3, h7, h8]
theorem idT_true {a b : Tm} : idT a b = true ↔ a = b := ⟨idT_iff _ a b (Nat.lt_succ_self _), fun e => e ▸ idT_refl _ a (Nat.lt_succ_self _)⟩
theorem idT_go_at {l m : List Tm} {i : Nat} {x y : Tm} (hx : l[i]? = some x) (hy : m[i]? = some y) : idT.go (l.take (i + 1)) m = (idT.go (l.take i) m && idT x y) := by
  induction l generalizing m i with
  | nil => simp at hx
  | cons a r ih =>
    cases m with
    | nil => simp at hy
    | cons b t =>
      cases i with
      | zero => simp at hx hy; subst hx hy; simp [idT.go]
      | succ i => simp only [List.take_succ_cons, idT.go, ih (by simpa using hx) (by simpa using hy), Bool.and_assoc]
theorem idT_go_no {l m : List Tm} {i : Nat} (h : idT.go (l.take i) m = false) : idT.go l m = false := by
  induction l generalizing m i with
  | nil => simp [idT.go] at h
  | cons a r ih =>
    cases i with
    | zero => simp [idT.go] at h
    | succ i =>
      cases m with
      | nil => simp [idT.go] at h
      | cons b t =>
        simp only [List.take_succ_cons, idT.go, Bool.and_eq_false_iff] at h ⊢
        exact h.imp id ih
/-- equal valid terms -/
def sameT (a b : Tm) : Bool := validT a && validT b && idT a b
theorem sameT_iff {a b : Tm} : sameT a b = true ↔ validT a = true ∧ a = b := by
  unfold sameT
  simp only [Bool.and_eq_true, idT_true]
  constructor
  · rintro ⟨⟨h1, -⟩, h3⟩; exact ⟨h1, h3⟩
  · rintro ⟨h1, rfl⟩; exact ⟨⟨h1, h1⟩, rfl⟩
theorem BlkNext {w w' : World} {g : Nat} {t : TypeId} {cs : Array Value} (h : Blk w g t cs) (hb : Below w.heap.size w w') : Blk w' g t cs := h.below hb h.lt
theorem ArgsNext {w w' : World} {A : Option Addr} {l : List Tm} (h : ArgsAt w (Old w.heap.size) A l) (hb : Below w.heap.size w w') : ArgsAt w' (Old w'.heap.size) A l := h.keep (fun b hb' => hb.block b hb') (fun _ hb' => Nat.lt_of_lt_of_le hb' hb.size)
set_option maxRecDepth 100000 in
set_option maxHeartbeats 4000000 in
theorem ident59_any (N : Nat) : ∀ (a b : Tm), cnt a < N → cnt a ≤ 4000 → ∀ (Aa : Option Addr) (ca : Nat) (Ab : Option Addr) (cb : Nat) (w : World), ArgsAt w (Old w.heap.size) Aa a.args → ArgsAt w (Old w.heap.size) Ab b.args →
    Calls Tryz.prog 75 #[a.v Aa ca, b.v Ab cb] w fun e w' => e = .returned (.bool (idT a b)) ∧ Below w.heap.size w w' := by
  induction N with
  | zero => intro a b h; omega
  | succ N ih =>
    intro a b hN h4 Aa ca Ab cb w haa hab
    obtain ⟨X, HX⟩ : ∃ X, Hid (X = (w.alloc (.cells #[.int .i64 a.kind, .int .i64 a.n, .string a.name, .slice Aa a.args.length ca] 24)).alloc (.cells #[.int .i64 b.kind, .int .i64 b.n, .string b.name, .slice Ab b.args.length cb] 24)) := ⟨_, rfl⟩
    have hbX : Below w.heap.size w X := by rw [HX.out]; exact (bAlloc w _).alloc (by simp) _
    obtain ⟨r1, hr1⟩ : ∃ q, Hid (q = w.heap.size) := ⟨_, rfl⟩
    obtain ⟨r2, hr2⟩ : ∃ q, Hid (q = w.heap.size + 1) := ⟨_, rfl⟩
    have hk1 : Blk X r1 24 #[.int .i64 a.kind, .int .i64 a.n, .string a.name, .slice Aa a.args.length ca] := by rw [HX.out, hr1.out]; exact (Blk.new w _ _).alloc _
    have hk2 : Blk X r2 24 #[.int .i64 b.kind, .int .i64 b.n, .string b.name, .slice Ab b.args.length cb] := by
      rw [HX.out, hr2.out]
      have h1 := Blk.new (w.alloc (.cells #[.int .i64 a.kind, .int .i64 a.n, .string a.name, .slice Aa a.args.length ca] 24)) 24 #[.int .i64 b.kind, .int .i64 b.n, .string b.name, .slice Ab b.args.length cb]
      rw [World.size_alloc] at h1
      exact h1
    have HA := Lib.hid (ArgsNext haa hbX)
    have HD := Lib.hid (ArgsNext hab hbX)
    have HB := Lib.hid hbX
    have HK1 := Lib.hid hk1
    have HK2 := Lib.hid hk2
    have HCA := Lib.hid (args_le a)
    have HID := Lib.hid (idT_eq a b)
    have hal : a.args.length ≤ 4000 := Nat.le_trans (args_le a) h4
    have hbl := hab.len
    have p0 := hk1.cell 0
    have p1 := hk1.cell 1
    have p2 := hk1.cell 2
    have p3 := hk1.cell 3
    have lp := hk1.lt
    have s0 := hk2.cell 0
    have s1 := hk2.cell 1
    have s2 := hk2.cell 2
    have s3 := hk2.cell 3
    have ls := hk2.lt
    simp at p0 p1 p2 p3 s0 s1 s2 s3
    clear haa hab hk1 hk2 hbX
    go_enter Tryz.func75, Tryz.ntmps75
    go_upto_region 1 with fail
    rw [← HX.out, ← hr2.out, ← hr1.out]
    clear HX
    by_cases e1 : a.kind = b.kind
    rotate_left
    · have e1b : (a.kind != b.kind) = true := by simp [e1]
      have e1c : (a.kind == b.kind) = false := by simp [e1]
      have HR := Lib.hid (show idT a b = false by rw [HID.out, e1c]; rfl)
      clear e1 e1c
      go_wp2_with fail
      go_ret
      exact ⟨ret_bool HR.out.symm, HB.out⟩
    have e1b : (a.kind != b.kind) = false := by simp [e1]
    have E1 := Lib.hid e1
    clear e1
    by_cases e2 : a.n = b.n
    rotate_left
    · have e2b : (a.n != b.n) = true := by simp [e2]
      have e2c : (a.n == b.n) = false := by simp [e2]
      have HR := Lib.hid (show idT a b = false by rw [HID.out, e2c]; simp)
      clear e2 e2c
      go_wp2_with fail
      go_ret
      exact ⟨ret_bool HR.out.symm, HB.out⟩
    have e2b : (a.n != b.n) = false := by simp [e2]
    have E2 := Lib.hid e2
    clear e2
    by_cases e3 : a.name.toList = b.name.toList
    rotate_left
    · have e3b : (a.name.toList != b.name.toList) = true := by simp [e3]
      have e3c : (a.name.toList == b.name.toList) = false := by simp [e3]
      have HR := Lib.hid (show idT a b = false by rw [HID.out, e3c]; simp)
      clear e3
      go_wp2_with fail
      go_ret
      exact ⟨ret_bool HR.out.symm, HB.out⟩
    have e3b : (a.name.toList != b.name.toList) = false := by simp [e3]
    have e3c : (a.name.toList == b.name.toList) = true := by simp [e3]
    have E3 := Lib.hid e3
    clear e3
    by_cases e4 : a.args.length = b.args.length
    rotate_left
    · have e4b : ((a.args.length : Int) != (b.args.length : Int)) = true := by simp; omega
      have HR := Lib.hid (show idT a b = false by rw [HID.out, show (a.args.length == b.args.length) = false by simpa using e4]; simp)
      clear e4
      go_wp2_with fail
      go_ret
      exact ⟨ret_bool HR.out.symm, HB.out⟩
    have e4b : ((a.args.length : Int) != (b.args.length : Int)) = false := by simp; omega
    have HE4 := Lib.hid e4
    have HG := Lib.hid (show idT a b = idT.go a.args b.args by rw [HID.out, E1.out, E2.out, E3.out, e4]; simp)
    clear e4
    go_wp2_with fail
    go_loopw [38] (fun i wr => ∃ k : Nat, k ≤ a.args.length ∧ i = .int .i64 (k : Int) ∧ Hid (Below X.heap.size X wr) ∧ Hid (idT.go (a.args.take k) b.args = true)) (fun i _ => a.args.length - (intOf i).toNat)
    case atStart => exact ⟨0, by omega, rfl, Lib.hid (Below.refl _ _), Lib.hid (by simp [idT.go])⟩
    case round =>
      clear p0 p1 p2 p3 lp s0 s1 s2 s3 ls e4b e1b e2b e3b e3c
      obtain ⟨k, hk, rfl, HBW, HT⟩ := hrel
      have hk1 := BlkNext HK1.out HBW.out
      have hk2 := BlkNext HK2.out HBW.out
      have p3 := hk1.cell 3
      have lp := hk1.lt
      have s3 := hk2.cell 3
      have ls := hk2.lt
      simp at p3 s3
      have HL1 := Lib.hid hk1
      have HL2 := Lib.hid hk2
      clear hk1 hk2
      by_cases hkl : k < a.args.length
      · have hkl2 : k < b.args.length := by have := HE4.out; omega
        obtain ⟨bx, ox, x, Ax, cx, rfl, hFx, hx, ⟨x0, x1, x2, x3⟩, hxa⟩ := (ArgsNext HA.out HBW.out).at hkl
        obtain ⟨by_, oy, y, Ay, cy, rfl, hFy, hy, ⟨y0, y1, y2, y3⟩, hya⟩ := (ArgsNext HD.out HBW.out).at hkl2
        have lx : bx < wr.heap.size := hFx
        have ly : by_ < wr.heap.size := hFy
        have HXA := Lib.hid hxa
        have HYA := Lib.hid hya
        have hxc := Tm.lt_of_at hx
        have HNX := Lib.hid (idT_go_at hx hy)
        clear hFx hFy hx hy hxa hya
        go_upto_region 6 with fail
        obtain ⟨Y, hY⟩ : ∃ X', Hid (X' = wr.alloc (.cells #[.int .i64 x.kind, .int .i64 x.n, .string x.name, .slice Ax x.args.length cx] 24)) := ⟨_, rfl⟩
        obtain ⟨bb, hbb⟩ : ∃ q, Hid (q = wr.heap.size) := ⟨_, rfl⟩
        have hbY : Below wr.heap.size wr Y := by rw [hY.out]; exact bAlloc _ _
        have hkY : Blk Y bb 24 #[.int .i64 x.kind, .int .i64 x.n, .string x.name, .slice Ax x.args.length cx] := by rw [hY.out, hbb.out]; exact Blk.new _ _ _
        rw [← hY.out, ← hbb.out]
        have HBY := Lib.hid hbY
        have hzY := hbY.size
        obtain ⟨D, hD⟩ : ∃ X, Hid (X = Y.drew) := ⟨_, rfl⟩
        have hd : Below Y.heap.size Y D := by rw [hD.out]; exact bDrewN (Below.refl _ _) 1
        have hyd : Below wr.heap.size wr D := bNext hbY hd
        have hS0 : (fun w' => Blk w' bb 24 #[.int .i64 x.kind, .int .i64 x.n, .string x.name, .slice Ax x.args.length cx] ∧ Blk w' r2 24 #[.int .i64 b.kind, .int .i64 b.n, .string b.name, .slice (some ⟨by_, oy, none⟩) b.args.length cb] ∧ w'.cell? ⟨by_, oy + k * 4, none⟩ = some (.int .i64 y.kind) ∧ w'.cell? ⟨by_, oy + k * 4 + 1, none⟩ = some (.int .i64 y.n) ∧ w'.cell? ⟨by_, oy + k * 4 + 2, none⟩ = some (.string y.name) ∧ w'.cell? ⟨by_, oy + k * 4 + 3, none⟩ = some (.slice Ay y.args.length cy)) D := ⟨BlkNext hkY hd, BlkNext HL2.out hyd, (hyd.cell (p := ⟨by_, _, none⟩) ly).trans y0, (hyd.cell (p := ⟨by_, _, none⟩) ly).trans y1, (hyd.cell (p := ⟨by_, _, none⟩) ly).trans y2, (hyd.cell (p := ⟨by_, _, none⟩) ly).trans y3⟩
        refine wp_region_N (fun w' => Blk w' bb 24 #[.int .i64 x.kind, .int .i64 x.n, .string x.name, .slice Ax x.args.length cx] ∧ Blk w' r2 24 #[.int .i64 b.kind, .int .i64 b.n, .string b.name, .slice (some ⟨by_, oy, none⟩) b.args.length cb] ∧ w'.cell? ⟨by_, oy + k * 4, none⟩ = some (.int .i64 y.kind) ∧ w'.cell? ⟨by_, oy + k * 4 + 1, none⟩ = some (.int .i64 y.n) ∧ w'.cell? ⟨by_, oy + k * 4 + 2, none⟩ = some (.string y.name) ∧ w'.cell? ⟨by_, oy + k * 4 + 3, none⟩ = some (.slice Ay y.args.length cy)) (fun _ => true) (by kernel_rfl) ?_
        rw [← hD.out]
        have HD0 := Lib.hid hyd
        clear hD hd hyd hkY hbY hY
        refine wpAnyN_take (i := 0) (v := ?v12) rfl (by kernel_rfl) (by kernel_rfl) (by kernel_rfl) (by kernel_rfl) (fun _ _ _ h => h) (Or.inl ⟨by rfl, ?hy12⟩) (by assumption) ?_
        case hy12 => intro w hSw; obtain ⟨b1, b2, y0, y1, y2, y3⟩ := hSw; have p0 := b1.cell 0; have p1 := b1.cell 1; have p2 := b1.cell 2; have p3 := b1.cell 3; have s3 := b2.cell 3; simp at p0 p1 p2 p3 s3; go_simp; try with_reducible rfl
        simp only [Act.put, List.getElem_toArray, List.getElem_cons_zero, List.setIfInBounds_toArray, List.set_cons_zero, List.set_cons_succ]
        refine wpAnyN_take (i := 1) (v := ?v13) rfl (by kernel_rfl) (by kernel_rfl) (by kernel_rfl) (by kernel_rfl) (fun _ _ _ h => h) (Or.inl ⟨by rfl, ?hy13⟩) (by assumption) ?_
        case hy13 => intro w hSw; obtain ⟨b1, b2, y0, y1, y2, y3⟩ := hSw; have p0 := b1.cell 0; have p1 := b1.cell 1; have p2 := b1.cell 2; have p3 := b1.cell 3; have s3 := b2.cell 3; simp at p0 p1 p2 p3 s3; go_simp; try with_reducible rfl
        simp only [Act.put, List.getElem_toArray, List.getElem_cons_zero, List.getElem_cons_succ, List.setIfInBounds_toArray, List.set_cons_zero, List.set_cons_succ]
        refine wpAnyN_take (i := 2) (v := ?v14) rfl (by kernel_rfl) (by kernel_rfl) (by kernel_rfl) (by kernel_rfl) (fun _ _ _ h => h) (Or.inl ⟨by rfl, ?hy14⟩) (by assumption) ?_
        case hy14 => intro w hSw; obtain ⟨b1, b2, y0, y1, y2, y3⟩ := hSw; have p0 := b1.cell 0; have p1 := b1.cell 1; have p2 := b1.cell 2; have p3 := b1.cell 3; have s3 := b2.cell 3; simp at p0 p1 p2 p3 s3; go_simp; try with_reducible rfl
        simp only [Act.put, List.getElem_toArray, List.getElem_cons_zero, List.getElem_cons_succ, List.setIfInBounds_toArray, List.set_cons_zero, List.set_cons_succ]
        refine wpAnyN_take (i := 3) (v := ?v15) rfl (by kernel_rfl) (by kernel_rfl) (by kernel_rfl) (by kernel_rfl) (fun _ _ _ h => h) (Or.inl ⟨by rfl, ?hy15⟩) (by assumption) ?_
        case hy15 => intro w hSw; obtain ⟨b1, b2, y0, y1, y2, y3⟩ := hSw; have p0 := b1.cell 0; have p1 := b1.cell 1; have p2 := b1.cell 2; have p3 := b1.cell 3; have s3 := b2.cell 3; simp at p0 p1 p2 p3 s3; go_simp; try with_reducible rfl
        simp only [Act.put, List.getElem_toArray, List.getElem_cons_zero, List.getElem_cons_succ, List.setIfInBounds_toArray, List.set_cons_zero, List.set_cons_succ]
        refine wpAnyN_take (i := 4) (v := ?v16) rfl (by kernel_rfl) (by kernel_rfl) (by kernel_rfl) (by kernel_rfl) (fun _ _ _ h => h) (Or.inl ⟨by rfl, ?hy16⟩) (by assumption) ?_
        case hy16 => intro w hSw; obtain ⟨b1, b2, y0, y1, y2, y3⟩ := hSw; have p0 := b1.cell 0; have p1 := b1.cell 1; have p2 := b1.cell 2; have p3 := b1.cell 3; have s3 := b2.cell 3; simp at p0 p1 p2 p3 s3; go_simp; try with_reducible rfl
        simp only [Act.put, List.getElem_toArray, List.getElem_cons_zero, List.getElem_cons_succ, List.setIfInBounds_toArray, List.set_cons_zero, List.set_cons_succ]
        refine wpAnyN_take (i := 5) (v := ?v17) rfl (by kernel_rfl) (by kernel_rfl) (by kernel_rfl) (by kernel_rfl) (fun _ _ _ h => h) (Or.inl ⟨by rfl, ?hy17⟩) (by assumption) ?_
        case hy17 => intro w hSw; obtain ⟨b1, b2, y0, y1, y2, y3⟩ := hSw; have p0 := b1.cell 0; have p1 := b1.cell 1; have p2 := b1.cell 2; have p3 := b1.cell 3; have s3 := b2.cell 3; simp at p0 p1 p2 p3 s3; go_simp; try with_reducible rfl
        simp only [Act.put, List.getElem_toArray, List.getElem_cons_zero, List.getElem_cons_succ, List.setIfInBounds_toArray, List.set_cons_zero, List.set_cons_succ]
        refine wpAnyN_one (i := 6) (by kernel_rfl) rfl (fun K hK => ?_)
        simp only [List.getElem_toArray, List.getElem_cons_zero, List.getElem_cons_succ]
        go_simp
        refine (ih x y (by omega) (by omega) Ax cx Ay cy D (ArgsNext HXA.out HD0.out) (ArgsNext HYA.out HD0.out)).mono ?_
        rintro e w9 ⟨rfl, hb9⟩
        obtain ⟨b1, b2, t0, t1, t2, t3⟩ := hS0
        have ly' : by_ < D.heap.size := Nat.lt_of_lt_of_le ly HD0.out.size
        have hS9 : (fun w' => Blk w' bb 24 #[.int .i64 x.kind, .int .i64 x.n, .string x.name, .slice Ax x.args.length cx] ∧ Blk w' r2 24 #[.int .i64 b.kind, .int .i64 b.n, .string b.name, .slice (some ⟨by_, oy, none⟩) b.args.length cb] ∧ w'.cell? ⟨by_, oy + k * 4, none⟩ = some (.int .i64 y.kind) ∧ w'.cell? ⟨by_, oy + k * 4 + 1, none⟩ = some (.int .i64 y.n) ∧ w'.cell? ⟨by_, oy + k * 4 + 2, none⟩ = some (.string y.name) ∧ w'.cell? ⟨by_, oy + k * 4 + 3, none⟩ = some (.slice Ay y.args.length cy)) w9 := ⟨BlkNext b1 hb9, BlkNext b2 hb9, (hb9.cell (p := ⟨by_, _, none⟩) ly').trans t0, (hb9.cell (p := ⟨by_, _, none⟩) ly').trans t1, (hb9.cell (p := ⟨by_, _, none⟩) ly').trans t2, (hb9.cell (p := ⟨by_, _, none⟩) ly').trans t3⟩
        have HB9 := Lib.hid (HBW.out.trans ((HD0.out.trans (hb9.mono HD0.out.size)).mono HBW.out.size))
        clear b1 b2 t0 t1 t2 t3 hb9 x0 x1 x2 x3 y0 y1 y2 y3
        refine hK _ _ (fun _ => hS9) ?_
        (try simp only [Act.put, List.setIfInBounds_toArray, List.set_cons_zero, List.set_cons_succ])
        refine wpAnyN_take (i := 7) (v := ?v18) rfl (by kernel_rfl) (by kernel_rfl) (by kernel_rfl) (by kernel_rfl) (fun _ _ _ h => h) (Or.inl ⟨by rfl, ?hy18⟩) (by assumption) ?_
        case hy18 => intro w hSw; obtain ⟨b1, b2, y0, y1, y2, y3⟩ := hSw; have p0 := b1.cell 0; have p1 := b1.cell 1; have p2 := b1.cell 2; have p3 := b1.cell 3; have s3 := b2.cell 3; simp at p0 p1 p2 p3 s3; go_simp; try with_reducible rfl
        simp only [Act.put, List.getElem_toArray, List.getElem_cons_zero, List.getElem_cons_succ, List.setIfInBounds_toArray, List.set_cons_zero, List.set_cons_succ]
        refine wpAnyN_done (by kernel_rfl) ?_ _
        clear hS9
        cases hxy : idT x y
        · have HF := Lib.hid (show idT a b = false by rw [HG.out]; exact idT_go_no (i := k + 1) (by rw [HNX.out, hxy]; simp))
          clear hxy
          go_wp2_with fail
          go_ret
          exact ⟨ret_bool HF.out.symm, bNext HB.out HB9.out⟩
        · have HF := Lib.hid (show idT.go (a.args.take (k + 1)) b.args = true by rw [HNX.out, HT.out, hxy]; rfl)
          clear hxy
          go_wp2_with fail
          exact ⟨⟨k + 1, by omega, by go_num, HB9, HF⟩, by simp [intOf]; omega⟩
      · have HF := Lib.hid (show idT a b = true by rw [HG.out, ← HT.out, List.take_of_length_le (by omega)])
        go_wp2_with fail
        go_ret
        exact ⟨ret_bool HF.out.symm, bNext HB.out HBW.out⟩
set_option maxRecDepth 100000 in
set_option maxHeartbeats 4000000 in
theorem ident57_any (N : Nat) : ∀ (a b : Tm), cnt a < N → cnt a ≤ 4000 → ∀ (Aa : Option Addr) (ca : Nat) (Ab : Option Addr) (cb : Nat) (w : World), ArgsAt w (Old w.heap.size) Aa a.args → ArgsAt w (Old w.heap.size) Ab b.args →
    Calls Tryz.prog 86 #[a.v Aa ca, b.v Ab cb] w fun e w' => e = .returned (.bool (idT a b)) ∧ Below w.heap.size w w' := by
  induction N with
  | zero => intro a b h; omega
  | succ N ih =>
    intro a b hN h4 Aa ca Ab cb w haa hab
    obtain ⟨X, HX⟩ : ∃ X, Hid (X = (w.alloc (.cells #[.int .i64 a.kind, .int .i64 a.n, .string a.name, .slice Aa a.args.length ca] 24)).alloc (.cells #[.int .i64 b.kind, .int .i64 b.n, .string b.name, .slice Ab b.args.length cb] 24)) := ⟨_, rfl⟩
    have hbX : Below w.heap.size w X := by rw [HX.out]; exact (bAlloc w _).alloc (by simp) _
    obtain ⟨r1, hr1⟩ : ∃ q, Hid (q = w.heap.size) := ⟨_, rfl⟩
    obtain ⟨r2, hr2⟩ : ∃ q, Hid (q = w.heap.size + 1) := ⟨_, rfl⟩
    have hk1 : Blk X r1 24 #[.int .i64 a.kind, .int .i64 a.n, .string a.name, .slice Aa a.args.length ca] := by rw [HX.out, hr1.out]; exact (Blk.new w _ _).alloc _
    have hk2 : Blk X r2 24 #[.int .i64 b.kind, .int .i64 b.n, .string b.name, .slice Ab b.args.length cb] := by
      rw [HX.out, hr2.out]
      have h1 := Blk.new (w.alloc (.cells #[.int .i64 a.kind, .int .i64 a.n, .string a.name, .slice Aa a.args.length ca] 24)) 24 #[.int .i64 b.kind, .int .i64 b.n, .string b.name, .slice Ab b.args.length cb]
      rw [World.size_alloc] at h1
      exact h1
    have HA := Lib.hid (ArgsNext haa hbX)
    have HD := Lib.hid (ArgsNext hab hbX)
    have HB := Lib.hid hbX
    have HK1 := Lib.hid hk1
    have HK2 := Lib.hid hk2
    have HCA := Lib.hid (args_le a)
    have HID := Lib.hid (idT_eq a b)
    have hal : a.args.length ≤ 4000 := Nat.le_trans (args_le a) h4
    have hbl := hab.len
    have p0 := hk1.cell 0
    have p1 := hk1.cell 1
    have p2 := hk1.cell 2
    have p3 := hk1.cell 3
    have lp := hk1.lt
    have s0 := hk2.cell 0
    have s1 := hk2.cell 1
    have s2 := hk2.cell 2
    have s3 := hk2.cell 3
    have ls := hk2.lt
    simp at p0 p1 p2 p3 s0 s1 s2 s3
    clear haa hab hk1 hk2 hbX
    go_enter Tryz.func86, Tryz.ntmps86
    go_upto_region 1 with fail
    rw [← HX.out, ← hr2.out, ← hr1.out]
    clear HX
    by_cases e1 : a.kind = b.kind
    rotate_left
    · have e1b : (a.kind != b.kind) = true := by simp [e1]
      have e1c : (a.kind == b.kind) = false := by simp [e1]
      have HR := Lib.hid (show idT a b = false by rw [HID.out, e1c]; rfl)
      clear e1 e1c
      go_wp2_with fail
      go_ret
      exact ⟨ret_bool HR.out.symm, HB.out⟩
    have e1b : (a.kind != b.kind) = false := by simp [e1]
    have E1 := Lib.hid e1
    clear e1
    by_cases e2 : a.n = b.n
    rotate_left
    · have e2b : (a.n != b.n) = true := by simp [e2]
      have e2c : (a.n == b.n) = false := by simp [e2]
      have HR := Lib.hid (show idT a b = false by rw [HID.out, e2c]; simp)
      clear e2 e2c
      go_wp2_with fail
      go_ret
      exact ⟨ret_bool HR.out.symm, HB.out⟩
    have e2b : (a.n != b.n) = false := by simp [e2]
    have E2 := Lib.hid e2
    clear e2
    by_cases e3 : a.name.toList = b.name.toList
    rotate_left
    · have e3b : (a.name.toList != b.name.toList) = true := by simp [e3]
      have e3c : (a.name.toList == b.name.toList) = false := by simp [e3]
      have HR := Lib.hid (show idT a b = false by rw [HID.out, e3c]; simp)
      clear e3
      go_wp2_with fail
      go_ret
      exact ⟨ret_bool HR.out.symm, HB.out⟩
    have e3b : (a.name.toList != b.name.toList) = false := by simp [e3]
    have e3c : (a.name.toList == b.name.toList) = true := by simp [e3]
    have E3 := Lib.hid e3
    clear e3
    by_cases e4 : a.args.length = b.args.length
    rotate_left
    · have e4b : ((a.args.length : Int) != (b.args.length : Int)) = true := by simp; omega
      have HR := Lib.hid (show idT a b = false by rw [HID.out, show (a.args.length == b.args.length) = false by simpa using e4]; simp)
      clear e4
      go_wp2_with fail
      go_ret
      exact ⟨ret_bool HR.out.symm, HB.out⟩
    have e4b : ((a.args.length : Int) != (b.args.length : Int)) = false := by simp; omega
    have HE4 := Lib.hid e4
    have HG := Lib.hid (show idT a b = idT.go a.args b.args by rw [HID.out, E1.out, E2.out, E3.out, e4]; simp)
    clear e4
    go_wp2_with fail
    go_loopw [5] (fun i wr => ∃ k : Nat, k ≤ a.args.length ∧ i = .int .i64 (k : Int) ∧ Hid (Below X.heap.size X wr) ∧ Hid (idT.go (a.args.take k) b.args = true)) (fun i _ => a.args.length - (intOf i).toNat)
    case atStart => exact ⟨0, by omega, rfl, Lib.hid (Below.refl _ _), Lib.hid (by simp [idT.go])⟩
    case round =>
      clear p0 p1 p2 p3 lp s0 s1 s2 s3 ls e4b e1b e2b e3b e3c
      obtain ⟨k, hk, rfl, HBW, HT⟩ := hrel
      have hk1 := BlkNext HK1.out HBW.out
      have hk2 := BlkNext HK2.out HBW.out
      have p3 := hk1.cell 3
      have lp := hk1.lt
      have s3 := hk2.cell 3
      have ls := hk2.lt
      simp at p3 s3
      have HL1 := Lib.hid hk1
      have HL2 := Lib.hid hk2
      clear hk1 hk2
      by_cases hkl : k < a.args.length
      · have hkl2 : k < b.args.length := by have := HE4.out; omega
        obtain ⟨bx, ox, x, Ax, cx, rfl, hFx, hx, ⟨x0, x1, x2, x3⟩, hxa⟩ := (ArgsNext HA.out HBW.out).at hkl
        obtain ⟨by_, oy, y, Ay, cy, rfl, hFy, hy, ⟨y0, y1, y2, y3⟩, hya⟩ := (ArgsNext HD.out HBW.out).at hkl2
        have lx : bx < wr.heap.size := hFx
        have ly : by_ < wr.heap.size := hFy
        have HXA := Lib.hid hxa
        have HYA := Lib.hid hya
        have hxc := Tm.lt_of_at hx
        have HNX := Lib.hid (idT_go_at hx hy)
        clear hFx hFy hx hy hxa hya
        go_upto_region 6 with fail
        obtain ⟨D, hD⟩ : ∃ X, Hid (X = wr.drew) := ⟨_, rfl⟩
        have hd : Below wr.heap.size wr D := by rw [hD.out]; exact bDrewN (Below.refl _ _) 1
        have hS0 : (fun w' => Blk w' r1 24 #[.int .i64 a.kind, .int .i64 a.n, .string a.name, .slice (some ⟨bx, ox, none⟩) a.args.length ca] ∧ Blk w' r2 24 #[.int .i64 b.kind, .int .i64 b.n, .string b.name, .slice (some ⟨by_, oy, none⟩) b.args.length cb] ∧ (w'.cell? ⟨bx, ox + k * 4, none⟩ = some (.int .i64 x.kind) ∧ w'.cell? ⟨bx, ox + k * 4 + 1, none⟩ = some (.int .i64 x.n) ∧ w'.cell? ⟨bx, ox + k * 4 + 2, none⟩ = some (.string x.name) ∧ w'.cell? ⟨bx, ox + k * 4 + 3, none⟩ = some (.slice Ax x.args.length cx)) ∧ w'.cell? ⟨by_, oy + k * 4, none⟩ = some (.int .i64 y.kind) ∧ w'.cell? ⟨by_, oy + k * 4 + 1, none⟩ = some (.int .i64 y.n) ∧ w'.cell? ⟨by_, oy + k * 4 + 2, none⟩ = some (.string y.name) ∧ w'.cell? ⟨by_, oy + k * 4 + 3, none⟩ = some (.slice Ay y.args.length cy)) D := ⟨BlkNext HL1.out hd, BlkNext HL2.out hd, ⟨(hd.cell (p := ⟨bx, _, none⟩) lx).trans x0, (hd.cell (p := ⟨bx, _, none⟩) lx).trans x1, (hd.cell (p := ⟨bx, _, none⟩) lx).trans x2, (hd.cell (p := ⟨bx, _, none⟩) lx).trans x3⟩, (hd.cell (p := ⟨by_, _, none⟩) ly).trans y0, (hd.cell (p := ⟨by_, _, none⟩) ly).trans y1, (hd.cell (p := ⟨by_, _, none⟩) ly).trans y2, (hd.cell (p := ⟨by_, _, none⟩) ly).trans y3⟩
        refine wp_region_N (fun w' => Blk w' r1 24 #[.int .i64 a.kind, .int .i64 a.n, .string a.name, .slice (some ⟨bx, ox, none⟩) a.args.length ca] ∧ Blk w' r2 24 #[.int .i64 b.kind, .int .i64 b.n, .string b.name, .slice (some ⟨by_, oy, none⟩) b.args.length cb] ∧ (w'.cell? ⟨bx, ox + k * 4, none⟩ = some (.int .i64 x.kind) ∧ w'.cell? ⟨bx, ox + k * 4 + 1, none⟩ = some (.int .i64 x.n) ∧ w'.cell? ⟨bx, ox + k * 4 + 2, none⟩ = some (.string x.name) ∧ w'.cell? ⟨bx, ox + k * 4 + 3, none⟩ = some (.slice Ax x.args.length cx)) ∧ w'.cell? ⟨by_, oy + k * 4, none⟩ = some (.int .i64 y.kind) ∧ w'.cell? ⟨by_, oy + k * 4 + 1, none⟩ = some (.int .i64 y.n) ∧ w'.cell? ⟨by_, oy + k * 4 + 2, none⟩ = some (.string y.name) ∧ w'.cell? ⟨by_, oy + k * 4 + 3, none⟩ = some (.slice Ay y.args.length cy)) (fun _ => true) (by kernel_rfl) ?_
        rw [← hD.out]
        have HD0 := Lib.hid hd
        clear hD hd
        refine wpAnyN_take (i := 0) (v := ?v1) rfl (by kernel_rfl) (by kernel_rfl) (by kernel_rfl) (by kernel_rfl) (fun _ _ _ h => h) (Or.inl ⟨by rfl, ?hy1⟩) (by assumption) ?_
        case hy1 => intro w hSw; obtain ⟨b1, b2, ⟨x0, x1, x2, x3⟩, y0, y1, y2, y3⟩ := hSw; have p3 := b1.cell 3; have s3 := b2.cell 3; simp at p3 s3; go_simp; try with_reducible rfl
        simp only [Act.put, List.getElem_toArray, List.getElem_cons_zero, List.setIfInBounds_toArray, List.set_cons_zero, List.set_cons_succ]
        refine wpAnyN_take (i := 1) (v := ?v2) rfl (by kernel_rfl) (by kernel_rfl) (by kernel_rfl) (by kernel_rfl) (fun _ _ _ h => h) (Or.inl ⟨by rfl, ?hy2⟩) (by assumption) ?_
        case hy2 => intro w hSw; obtain ⟨b1, b2, ⟨x0, x1, x2, x3⟩, y0, y1, y2, y3⟩ := hSw; have p3 := b1.cell 3; have s3 := b2.cell 3; simp at p3 s3; go_simp; try with_reducible rfl
        simp only [Act.put, List.getElem_toArray, List.getElem_cons_zero, List.getElem_cons_succ, List.setIfInBounds_toArray, List.set_cons_zero, List.set_cons_succ]
        refine wpAnyN_take (i := 2) (v := ?v3) rfl (by kernel_rfl) (by kernel_rfl) (by kernel_rfl) (by kernel_rfl) (fun _ _ _ h => h) (Or.inl ⟨by rfl, ?hy3⟩) (by assumption) ?_
        case hy3 => intro w hSw; obtain ⟨b1, b2, ⟨x0, x1, x2, x3⟩, y0, y1, y2, y3⟩ := hSw; have p3 := b1.cell 3; have s3 := b2.cell 3; simp at p3 s3; go_simp; try with_reducible rfl
        simp only [Act.put, List.getElem_toArray, List.getElem_cons_zero, List.getElem_cons_succ, List.setIfInBounds_toArray, List.set_cons_zero, List.set_cons_succ]
        refine wpAnyN_take (i := 3) (v := ?v4) rfl (by kernel_rfl) (by kernel_rfl) (by kernel_rfl) (by kernel_rfl) (fun _ _ _ h => h) (Or.inl ⟨by rfl, ?hy4⟩) (by assumption) ?_
        case hy4 => intro w hSw; obtain ⟨b1, b2, ⟨x0, x1, x2, x3⟩, y0, y1, y2, y3⟩ := hSw; have p3 := b1.cell 3; have s3 := b2.cell 3; simp at p3 s3; go_simp; try with_reducible rfl
        simp only [Act.put, List.getElem_toArray, List.getElem_cons_zero, List.getElem_cons_succ, List.setIfInBounds_toArray, List.set_cons_zero, List.set_cons_succ]
        refine wpAnyN_take (i := 4) (v := ?v5) rfl (by kernel_rfl) (by kernel_rfl) (by kernel_rfl) (by kernel_rfl) (fun _ _ _ h => h) (Or.inl ⟨by rfl, ?hy5⟩) (by assumption) ?_
        case hy5 => intro w hSw; obtain ⟨b1, b2, ⟨x0, x1, x2, x3⟩, y0, y1, y2, y3⟩ := hSw; have p3 := b1.cell 3; have s3 := b2.cell 3; simp at p3 s3; go_simp; try with_reducible rfl
        simp only [Act.put, List.getElem_toArray, List.getElem_cons_zero, List.getElem_cons_succ, List.setIfInBounds_toArray, List.set_cons_zero, List.set_cons_succ]
        refine wpAnyN_take (i := 5) (v := ?v6) rfl (by kernel_rfl) (by kernel_rfl) (by kernel_rfl) (by kernel_rfl) (fun _ _ _ h => h) (Or.inl ⟨by rfl, ?hy6⟩) (by assumption) ?_
        case hy6 => intro w hSw; obtain ⟨b1, b2, ⟨x0, x1, x2, x3⟩, y0, y1, y2, y3⟩ := hSw; have p3 := b1.cell 3; have s3 := b2.cell 3; simp at p3 s3; go_simp; try with_reducible rfl
        simp only [Act.put, List.getElem_toArray, List.getElem_cons_zero, List.getElem_cons_succ, List.setIfInBounds_toArray, List.set_cons_zero, List.set_cons_succ]
        refine wpAnyN_take (i := 6) (v := ?v7) rfl (by kernel_rfl) (by kernel_rfl) (by kernel_rfl) (by kernel_rfl) (fun _ _ _ h => h) (Or.inl ⟨by rfl, ?hy7⟩) (by assumption) ?_
        case hy7 => intro w hSw; obtain ⟨b1, b2, ⟨x0, x1, x2, x3⟩, y0, y1, y2, y3⟩ := hSw; have p3 := b1.cell 3; have s3 := b2.cell 3; simp at p3 s3; go_simp; try with_reducible rfl
        simp only [Act.put, List.getElem_toArray, List.getElem_cons_zero, List.getElem_cons_succ, List.setIfInBounds_toArray, List.set_cons_zero, List.set_cons_succ]
        refine wpAnyN_take (i := 7) (v := ?v8) rfl (by kernel_rfl) (by kernel_rfl) (by kernel_rfl) (by kernel_rfl) (fun _ _ _ h => h) (Or.inl ⟨by rfl, ?hy8⟩) (by assumption) ?_
        case hy8 => intro w hSw; obtain ⟨b1, b2, ⟨x0, x1, x2, x3⟩, y0, y1, y2, y3⟩ := hSw; have p3 := b1.cell 3; have s3 := b2.cell 3; simp at p3 s3; go_simp; try with_reducible rfl
        simp only [Act.put, List.getElem_toArray, List.getElem_cons_zero, List.getElem_cons_succ, List.setIfInBounds_toArray, List.set_cons_zero, List.set_cons_succ]
        refine wpAnyN_take (i := 8) (v := ?v9) rfl (by kernel_rfl) (by kernel_rfl) (by kernel_rfl) (by kernel_rfl) (fun _ _ _ h => h) (Or.inl ⟨by rfl, ?hy9⟩) (by assumption) ?_
        case hy9 => intro w hSw; obtain ⟨b1, b2, ⟨x0, x1, x2, x3⟩, y0, y1, y2, y3⟩ := hSw; have p3 := b1.cell 3; have s3 := b2.cell 3; simp at p3 s3; go_simp; try with_reducible rfl
        simp only [Act.put, List.getElem_toArray, List.getElem_cons_zero, List.getElem_cons_succ, List.setIfInBounds_toArray, List.set_cons_zero, List.set_cons_succ]
        refine wpAnyN_take (i := 9) (v := ?v10) rfl (by kernel_rfl) (by kernel_rfl) (by kernel_rfl) (by kernel_rfl) (fun _ _ _ h => h) (Or.inl ⟨by rfl, ?hy10⟩) (by assumption) ?_
        case hy10 => intro w hSw; obtain ⟨b1, b2, ⟨x0, x1, x2, x3⟩, y0, y1, y2, y3⟩ := hSw; have p3 := b1.cell 3; have s3 := b2.cell 3; simp at p3 s3; go_simp; try with_reducible rfl
        simp only [Act.put, List.getElem_toArray, List.getElem_cons_zero, List.getElem_cons_succ, List.setIfInBounds_toArray, List.set_cons_zero, List.set_cons_succ]
        refine wpAnyN_one (i := 10) (by kernel_rfl) rfl (fun K hK => ?_)
        simp only [List.getElem_toArray, List.getElem_cons_zero, List.getElem_cons_succ]
        go_simp
        refine (ih x y (by omega) (by omega) Ax cx Ay cy D (ArgsNext HXA.out HD0.out) (ArgsNext HYA.out HD0.out)).mono ?_
        rintro e w9 ⟨rfl, hb9⟩
        obtain ⟨b1, b2, ⟨q0, q1, q2, q3⟩, t0, t1, t2, t3⟩ := hS0
        have lx' : bx < D.heap.size := Nat.lt_of_lt_of_le lx HD0.out.size
        have ly' : by_ < D.heap.size := Nat.lt_of_lt_of_le ly HD0.out.size
        have hS9 : (fun w' => Blk w' r1 24 #[.int .i64 a.kind, .int .i64 a.n, .string a.name, .slice (some ⟨bx, ox, none⟩) a.args.length ca] ∧ Blk w' r2 24 #[.int .i64 b.kind, .int .i64 b.n, .string b.name, .slice (some ⟨by_, oy, none⟩) b.args.length cb] ∧ (w'.cell? ⟨bx, ox + k * 4, none⟩ = some (.int .i64 x.kind) ∧ w'.cell? ⟨bx, ox + k * 4 + 1, none⟩ = some (.int .i64 x.n) ∧ w'.cell? ⟨bx, ox + k * 4 + 2, none⟩ = some (.string x.name) ∧ w'.cell? ⟨bx, ox + k * 4 + 3, none⟩ = some (.slice Ax x.args.length cx)) ∧ w'.cell? ⟨by_, oy + k * 4, none⟩ = some (.int .i64 y.kind) ∧ w'.cell? ⟨by_, oy + k * 4 + 1, none⟩ = some (.int .i64 y.n) ∧ w'.cell? ⟨by_, oy + k * 4 + 2, none⟩ = some (.string y.name) ∧ w'.cell? ⟨by_, oy + k * 4 + 3, none⟩ = some (.slice Ay y.args.length cy)) w9 := ⟨BlkNext b1 hb9, BlkNext b2 hb9, ⟨(hb9.cell (p := ⟨bx, _, none⟩) lx').trans q0, (hb9.cell (p := ⟨bx, _, none⟩) lx').trans q1, (hb9.cell (p := ⟨bx, _, none⟩) lx').trans q2, (hb9.cell (p := ⟨bx, _, none⟩) lx').trans q3⟩, (hb9.cell (p := ⟨by_, _, none⟩) ly').trans t0, (hb9.cell (p := ⟨by_, _, none⟩) ly').trans t1, (hb9.cell (p := ⟨by_, _, none⟩) ly').trans t2, (hb9.cell (p := ⟨by_, _, none⟩) ly').trans t3⟩
        have HB9 := Lib.hid (HBW.out.trans ((HD0.out.trans (hb9.mono HD0.out.size)).mono HBW.out.size))
        clear b1 b2 q0 q1 q2 q3 t0 t1 t2 t3 hb9 x0 x1 x2 x3 y0 y1 y2 y3
        refine hK _ _ (fun _ => hS9) ?_
        (try simp only [Act.put, List.setIfInBounds_toArray, List.set_cons_zero, List.set_cons_succ])
        refine wpAnyN_take (i := 11) (v := ?v11) rfl (by kernel_rfl) (by kernel_rfl) (by kernel_rfl) (by kernel_rfl) (fun _ _ _ h => h) (Or.inl ⟨by rfl, ?hy11⟩) (by assumption) ?_
        case hy11 => intro w hSw; obtain ⟨b1, b2, ⟨x0, x1, x2, x3⟩, y0, y1, y2, y3⟩ := hSw; have p3 := b1.cell 3; have s3 := b2.cell 3; simp at p3 s3; go_simp; try with_reducible rfl
        simp only [Act.put, List.getElem_toArray, List.getElem_cons_zero, List.getElem_cons_succ, List.setIfInBounds_toArray, List.set_cons_zero, List.set_cons_succ]
        refine wpAnyN_done (by kernel_rfl) ?_ _
        clear hS9
        cases hxy : idT x y
        · have HF := Lib.hid (show idT a b = false by rw [HG.out]; exact idT_go_no (i := k + 1) (by rw [HNX.out, hxy]; simp))
          clear hxy
          go_wp2_with fail
          go_ret
          exact ⟨ret_bool HF.out.symm, bNext HB.out HB9.out⟩
        · have HF := Lib.hid (show idT.go (a.args.take (k + 1)) b.args = true by rw [HNX.out, HT.out, hxy]; rfl)
          clear hxy
          go_wp2_with fail
          exact ⟨⟨k + 1, by omega, by go_num, HB9, HF⟩, by simp [intOf]; omega⟩
      · have HF := Lib.hid (show idT a b = true by rw [HG.out, ← HT.out, List.take_of_length_le (by omega)])
        go_wp2_with fail
        go_ret
        exact ⟨ret_bool HF.out.symm, bNext HB.out HBW.out⟩
set_option maxHeartbeats 2000000 in
theorem same32_any (a b : Tm) (Aa : Option Addr) (ca : Nat) (Ab : Option Addr) (cb : Nat) (w : World) (haa : ArgsAt w (Old w.heap.size) Aa a.args) (hab : ArgsAt w (Old w.heap.size) Ab b.args) :
    Calls Tryz.prog 30 #[a.v Aa ca, b.v Ab cb] w fun e w' => e = .returned (.bool (sameT a b)) ∧ Below w.heap.size w w' := by
    obtain ⟨X, HX⟩ : ∃ X, Hid (X = (w.alloc (.cells #[.int .i64 a.kind, .int .i64 a.n, .string a.name, .slice Aa a.args.length ca] 24)).alloc (.cells #[.int .i64 b.kind, .int .i64 b.n, .string b.name, .slice Ab b.args.length cb] 24)) := ⟨_, rfl⟩
    have hbX : Below w.heap.size w X := by rw [HX.out]; exact (bAlloc w _).alloc (by simp) _
    obtain ⟨r1, hr1⟩ : ∃ q, Hid (q = w.heap.size) := ⟨_, rfl⟩
    obtain ⟨r2, hr2⟩ : ∃ q, Hid (q = w.heap.size + 1) := ⟨_, rfl⟩
    have hk1 : Blk X r1 24 #[.int .i64 a.kind, .int .i64 a.n, .string a.name, .slice Aa a.args.length ca] := by rw [HX.out, hr1.out]; exact (Blk.new w _ _).alloc _
    have hk2 : Blk X r2 24 #[.int .i64 b.kind, .int .i64 b.n, .string b.name, .slice Ab b.args.length cb] := by
      rw [HX.out, hr2.out]
      have h1 := Blk.new (w.alloc (.cells #[.int .i64 a.kind, .int .i64 a.n, .string a.name, .slice Aa a.args.length ca] 24)) 24 #[.int .i64 b.kind, .int .i64 b.n, .string b.name, .slice Ab b.args.length cb]
      rw [World.size_alloc] at h1
      exact h1
    have HA := Lib.hid (ArgsNext haa hbX)
    have HD := Lib.hid (ArgsNext hab hbX)
    have HB := Lib.hid hbX
    have HK1 := Lib.hid hk1
    have HK2 := Lib.hid hk2
    clear haa hab hk1 hk2 hbX
    have p0 := HK1.out.cell 0
    have p1 := HK1.out.cell 1
    have p2 := HK1.out.cell 2
    have p3 := HK1.out.cell 3
    have lp := HK1.out.lt
    have s0 := HK2.out.cell 0
    have s1 := HK2.out.cell 1
    have s2 := HK2.out.cell 2
    have s3 := HK2.out.cell 3
    have ls := HK2.out.lt
    simp at p0 p1 p2 p3 s0 s1 s2 s3
    go_enter Tryz.func30, Tryz.ntmps30
    go_upto_region 1 with fail
    rw [← HX.out, ← hr2.out, ← hr1.out]
    clear HX
    go_wp2_with fail
    refine (validP_any a Aa ca X HA.out).mono ?_
    rintro e w1 ⟨rfl, hb1⟩
    have HA1 := Lib.hid (ArgsNext HA.out hb1)
    have HD1 := Lib.hid (ArgsNext HD.out hb1)
    have HBw1 := Lib.hid (bNext HB.out hb1)
    have HK11 := Lib.hid (BlkNext HK1.out hb1)
    have HK21 := Lib.hid (BlkNext HK2.out hb1)
    clear hb1 p0 p1 p2 p3 lp s0 s1 s2 s3 ls
    have p0 := HK11.out.cell 0
    have p1 := HK11.out.cell 1
    have p2 := HK11.out.cell 2
    have p3 := HK11.out.cell 3
    have lp := HK11.out.lt
    have s0 := HK21.out.cell 0
    have s1 := HK21.out.cell 1
    have s2 := HK21.out.cell 2
    have s3 := HK21.out.cell 3
    have ls := HK21.out.lt
    simp at p0 p1 p2 p3 s0 s1 s2 s3
    cases hva : validT a
    · go_wp2_with fail
      go_ret
      exact ⟨by simp [sameT, hva], HBw1.out⟩
    have HVA := Lib.hid hva
    clear hva
    go_wp2_with fail
    refine (validP_any b Ab cb w1 HD1.out).mono ?_
    rintro e w2 ⟨rfl, hb2⟩
    have HA2 := Lib.hid (ArgsNext HA1.out hb2)
    have HD2 := Lib.hid (ArgsNext HD1.out hb2)
    have HBw2 := Lib.hid (bNext HBw1.out hb2)
    have HK12 := Lib.hid (BlkNext HK11.out hb2)
    have HK22 := Lib.hid (BlkNext HK21.out hb2)
    clear hb2 p0 p1 p2 p3 lp s0 s1 s2 s3 ls
    have p0 := HK12.out.cell 0
    have p1 := HK12.out.cell 1
    have p2 := HK12.out.cell 2
    have p3 := HK12.out.cell 3
    have lp := HK12.out.lt
    have s0 := HK22.out.cell 0
    have s1 := HK22.out.cell 1
    have s2 := HK22.out.cell 2
    have s3 := HK22.out.cell 3
    have ls := HK22.out.lt
    simp at p0 p1 p2 p3 s0 s1 s2 s3
    cases hvb : validT b
    · go_wp2_with fail
      go_ret
      exact ⟨by simp [sameT, hvb], HBw2.out⟩
    have HVB := Lib.hid hvb
    clear hvb
    go_wp2_with fail
    refine (ident59_any _ a b (Nat.lt_succ_self _) (by have h := HVA.out; simp only [validT, Bool.and_eq_true, decide_eq_true_eq] at h; omega) Aa ca Ab cb w2 HA2.out HD2.out).mono ?_
    rintro e w3 ⟨rfl, hb3⟩
    have HB3 := Lib.hid (bNext HBw2.out hb3)
    clear hb3
    go_wp2_with fail
    go_ret
    exact ⟨by simp [sameT, HVA.out, HVB.out], HB3.out⟩
set_option maxHeartbeats 2000000 in
theorem same29_any (a b : Tm) (Aa : Option Addr) (ca : Nat) (Ab : Option Addr) (cb : Nat) (w : World) (haa : ArgsAt w (Old w.heap.size) Aa a.args) (hab : ArgsAt w (Old w.heap.size) Ab b.args) :
    Calls Tryz.prog 41 #[a.v Aa ca, b.v Ab cb] w fun e w' => e = .returned (.bool (sameT a b)) ∧ Below w.heap.size w w' := by
    obtain ⟨X, HX⟩ : ∃ X, Hid (X = (w.alloc (.cells #[.int .i64 a.kind, .int .i64 a.n, .string a.name, .slice Aa a.args.length ca] 24)).alloc (.cells #[.int .i64 b.kind, .int .i64 b.n, .string b.name, .slice Ab b.args.length cb] 24)) := ⟨_, rfl⟩
    have hbX : Below w.heap.size w X := by rw [HX.out]; exact (bAlloc w _).alloc (by simp) _
    obtain ⟨r1, hr1⟩ : ∃ q, Hid (q = w.heap.size) := ⟨_, rfl⟩
    obtain ⟨r2, hr2⟩ : ∃ q, Hid (q = w.heap.size + 1) := ⟨_, rfl⟩
    have hk1 : Blk X r1 24 #[.int .i64 a.kind, .int .i64 a.n, .string a.name, .slice Aa a.args.length ca] := by rw [HX.out, hr1.out]; exact (Blk.new w _ _).alloc _
    have hk2 : Blk X r2 24 #[.int .i64 b.kind, .int .i64 b.n, .string b.name, .slice Ab b.args.length cb] := by
      rw [HX.out, hr2.out]
      have h1 := Blk.new (w.alloc (.cells #[.int .i64 a.kind, .int .i64 a.n, .string a.name, .slice Aa a.args.length ca] 24)) 24 #[.int .i64 b.kind, .int .i64 b.n, .string b.name, .slice Ab b.args.length cb]
      rw [World.size_alloc] at h1
      exact h1
    have HA := Lib.hid (ArgsNext haa hbX)
    have HD := Lib.hid (ArgsNext hab hbX)
    have HB := Lib.hid hbX
    have HK1 := Lib.hid hk1
    have HK2 := Lib.hid hk2
    clear haa hab hk1 hk2 hbX
    have p0 := HK1.out.cell 0
    have p1 := HK1.out.cell 1
    have p2 := HK1.out.cell 2
    have p3 := HK1.out.cell 3
    have lp := HK1.out.lt
    have s0 := HK2.out.cell 0
    have s1 := HK2.out.cell 1
    have s2 := HK2.out.cell 2
    have s3 := HK2.out.cell 3
    have ls := HK2.out.lt
    simp at p0 p1 p2 p3 s0 s1 s2 s3
    go_enter Tryz.func41, Tryz.ntmps41
    go_upto_region 1 with fail
    rw [← HX.out, ← hr2.out, ← hr1.out]
    clear HX
    go_wp2_with fail
    refine (valid03_any a Aa ca X HA.out).mono ?_
    rintro e w1 ⟨rfl, hb1⟩
    have HA1 := Lib.hid (ArgsNext HA.out hb1)
    have HD1 := Lib.hid (ArgsNext HD.out hb1)
    have HBw1 := Lib.hid (bNext HB.out hb1)
    have HK11 := Lib.hid (BlkNext HK1.out hb1)
    have HK21 := Lib.hid (BlkNext HK2.out hb1)
    clear hb1 p0 p1 p2 p3 lp s0 s1 s2 s3 ls
    have p0 := HK11.out.cell 0
    have p1 := HK11.out.cell 1
    have p2 := HK11.out.cell 2
    have p3 := HK11.out.cell 3
    have lp := HK11.out.lt
    have s0 := HK21.out.cell 0
    have s1 := HK21.out.cell 1
    have s2 := HK21.out.cell 2
    have s3 := HK21.out.cell 3
    have ls := HK21.out.lt
    simp at p0 p1 p2 p3 s0 s1 s2 s3
    cases hva : validT a
    · go_wp2_with fail
      go_ret
      exact ⟨by simp [sameT, hva], HBw1.out⟩
    have HVA := Lib.hid hva
    clear hva
    go_wp2_with fail
    refine (valid03_any b Ab cb w1 HD1.out).mono ?_
    rintro e w2 ⟨rfl, hb2⟩
    have HA2 := Lib.hid (ArgsNext HA1.out hb2)
    have HD2 := Lib.hid (ArgsNext HD1.out hb2)
    have HBw2 := Lib.hid (bNext HBw1.out hb2)
    have HK12 := Lib.hid (BlkNext HK11.out hb2)
    have HK22 := Lib.hid (BlkNext HK21.out hb2)
    clear hb2 p0 p1 p2 p3 lp s0 s1 s2 s3 ls
    have p0 := HK12.out.cell 0
    have p1 := HK12.out.cell 1
    have p2 := HK12.out.cell 2
    have p3 := HK12.out.cell 3
    have lp := HK12.out.lt
    have s0 := HK22.out.cell 0
    have s1 := HK22.out.cell 1
    have s2 := HK22.out.cell 2
    have s3 := HK22.out.cell 3
    have ls := HK22.out.lt
    simp at p0 p1 p2 p3 s0 s1 s2 s3
    cases hvb : validT b
    · go_wp2_with fail
      go_ret
      exact ⟨by simp [sameT, hvb], HBw2.out⟩
    have HVB := Lib.hid hvb
    clear hvb
    go_wp2_with fail
    refine (ident57_any _ a b (Nat.lt_succ_self _) (by have h := HVA.out; simp only [validT, Bool.and_eq_true, decide_eq_true_eq] at h; omega) Aa ca Ab cb w2 HA2.out HD2.out).mono ?_
    rintro e w3 ⟨rfl, hb3⟩
    have HB3 := Lib.hid (bNext HBw2.out hb3)
    clear hb3
    go_wp2_with fail
    go_ret
    exact ⟨by simp [sameT, HVA.out, HVB.out], HB3.out⟩
end Go.Proofs.YtcagaaacfcpoeaaGreat
