/-
  Walk: whether a variable occurs in a term under bindings.
-/
import Derived.Test.YtpkpdjekoghkcaaUc
import Derived.Deep.AppendLies
import Derived.Deep.RegionHeld3
namespace Go.Proofs.Ytpkpdjekoghkcaa
open Go.RowKit

/-- the bindings of variables that have not been seen -/
def Un (bs : List Bi) (l : List Int) : Nat := bs.countP (fun x => decide (x.var ∉ l))
theorem Un_lt {bs : List Bi} {l : List Int} {x : Bi} (hx : x ∈ bs) (hn : x.var ∉ l) : Un bs (l ++ [x.var]) + 1 ≤ Un bs l := by
  unfold Un
  have hle : ∀ bs : List Bi, bs.countP (fun y => decide (y.var ∉ l ++ [x.var])) ≤ bs.countP (fun y => decide (y.var ∉ l)) := fun bs => List.countP_mono_left fun y _ h => by
    simp only [decide_eq_true_eq, List.mem_append, not_or] at h ⊢
    exact h.1
  induction bs with
  | nil => cases hx
  | cons y r ih =>
    rw [List.countP_cons, List.countP_cons]
    rcases List.mem_cons.1 hx with rfl | h
    · have := hle r
      rw [if_neg (by simp), if_pos (by simpa using hn)]
      omega
    · have h1 := ih h
      have h2 : (if decide (y.var ∉ l ++ [x.var]) = true then 1 else 0) ≤ (if decide (y.var ∉ l) = true then 1 else 0) := by
        split
        · rename_i h3
          rw [if_pos]
          · omega
          · simp only [decide_eq_true_eq, List.mem_append, not_or] at h3 ⊢
            exact h3.1
        · omega
      omega
theorem Un_nil (bs : List Bi) : Un bs [] ≤ bs.length := List.countP_le_length
/-- the variables that have been seen, behind a pointer -/
structure Sn (w : World) (B q : Nat) (V : Value) (l : List Int) : Prop where
  box : Blk w q 50 #[V]
  low : B ≤ q
  row : w.ownsRow B 2 1 V l.length (l.map (.int .i64))
/-- all but the list of the seen is kept -/
structure KeptV (q : Nat) (V : Value) (w w' : World) : Prop where
  os : w'.os = w.os
  tape : w'.tape = w.tape
  output : w'.output = w.output
  size : w.heap.size ≤ w'.heap.size
  block : ∀ g, g < w.heap.size → g ≠ q → V.ownBlock ≠ some g → w'.heap[g]? = w.heap[g]?
theorem KeptV.of {q : Nat} {V : Value} {w w' : World} (h : Below w.heap.size w w') : KeptV q V w w' := ⟨h.os, h.tape, h.output, h.size, fun g hg _ _ => h.block g hg⟩
/-- a later list: the same row, or a newer one -/
def Lat (V V' : Value) (b : Nat) : Prop := V'.ownBlock = V.ownBlock ∨ ∀ g, V'.ownBlock = some g → b ≤ g
theorem KeptV.trans {q : Nat} {V V1 : Value} {w w1 w2 : World} (h : KeptV q V w w1) (hl : Lat V V1 w.heap.size) (k : KeptV q V1 w1 w2) : KeptV q V w w2 :=
  ⟨k.os.trans h.os, k.tape.trans h.tape, k.output.trans h.output, Nat.le_trans h.size k.size, fun g hg hq hV => (k.block g (Nat.lt_of_lt_of_le hg h.size) hq (by
    rcases hl with e | e
    · rw [e]; exact hV
    · intro e2; have := e g e2; omega)).trans (h.block g hg hq hV)⟩
theorem Lat.trans {V V1 V2 : Value} {b b1 : Nat} (h : Lat V V1 b) (k : Lat V1 V2 b1) (hb : b ≤ b1) : Lat V V2 b := by
  rcases k with e | e
  · unfold Lat; rw [e]; exact h
  · exact .inr fun g hg => Nat.le_trans hb (e g hg)
theorem Lat.mono {V V' : Value} {b b' : Nat} (h : Lat V V' b) (hb : b' ≤ b) : Lat V V' b' := h.imp id fun h g hg => Nat.le_trans hb (h g hg)
theorem KeptV.low {q B : Nat} {V : Value} {l : List Int} {w w' : World} (h : KeptV q V w w') (hs : Sn w B q V l) : Below B w w' :=
  ⟨h.os, h.tape, h.output, h.size, fun g hg => h.block g (by have := hs.box.lt; have := hs.low; omega) (by have := hs.low; omega) fun e => by have := (hs.row.lt g e).1; omega⟩
theorem Sn.next {w w' : World} {B q : Nat} {V : Value} {l : List Int} (h : Sn w B q V l) (hb : Below w.heap.size w w') : Sn w' B q V l := ⟨h.box.below hb h.box.lt, h.low, own_below h.row hb⟩
def OccR (bs : List Bi) (B q : Nat) (V : Value) (l : List Int) (w : World) (e : Ending) (w' : World) : Prop := ∃ b V' l', e = .returned (.bool b) ∧ Sn w' B q V' l' ∧ Lat V V' w.heap.size ∧ KeptV q V w w' ∧ Un bs l' ≤ Un bs l ∧ l'.length + Un bs l' ≤ bs.length
set_option maxRecDepth 100000 in
set_option maxHeartbeats 4000000 in
theorem occurs_any {A : Option Addr} {c : Nat} (bs : List Bi) (v : Int) (hl : bs.length ≤ 1000000000) (hg : GoodB bs) (N : Nat) : ∀ (t : Tm) (l : List Int), Un bs l * 3000 + cnt t < N → ∀ (At : Option Addr) (ct : Nat) (V : Value) (w : World) (B q : Nat), TmOk t → BsAt w (Old B) A bs → ArgsAt w (Old B) At t.args → Sn w B q V l → l.length + Un bs l ≤ bs.length →
    Calls Try.prog 65 #[.slice A bs.length c, .int .i64 v, t.v At ct, .pointer (some ⟨q, 0, none⟩)] w (OccR bs B q V l w) := by
  obtain ⟨i2, hi2, hz2, hy2, hb2'⟩ := info_parts info2
  induction N with
  | zero => intro t l h; omega
  | succ N ih =>
    intro t l hN At ct V w B q ho h ha hs hlen
    obtain ⟨X, HX⟩ : ∃ X, Hid (X = w.alloc (.cells #[.int .i64 t.kind, .int .i64 t.n, .string t.name, .slice At t.args.length ct] 47)) := ⟨_, rfl⟩
    have hbX : Below w.heap.size w X := by rw [HX.out]; exact bAlloc w _
    obtain ⟨r, hr⟩ : ∃ q, Hid (q = w.heap.size) := ⟨_, rfl⟩
    have hk0 : Blk X r 47 #[.int .i64 t.kind, .int .i64 t.n, .string t.name, .slice At t.args.length ct] := by rw [HX.out, hr.out]; exact Blk.new w _ _
    have hBw : B ≤ w.heap.size := by have := hs.low; have := hs.box.lt; omega
    have hqr : q ≠ r := by have := hs.box.lt; rw [hr.out]; omega
    have hVr : V.ownBlock ≠ some r := fun e => by have := (hs.row.lt r e).2; rw [hr.out] at this; omega
    have hrw : w.heap.size ≤ r := by rw [hr.out]; exact Nat.le_refl _
    have hrB : B ≤ r := by rw [hr.out]; exact hBw
    have H := Lib.hid h
    have HA := Lib.hid ha
    have HS0 := Lib.hid hs
    have HBX := Lib.hid hbX
    have HS := Lib.hid (hs.next hbX)
    have HO := Lib.hid ho
    have HKV := Lib.hid (KeptV.of (q := q) (V := V) hbX)
    have HK := Lib.hid hk0
    have HG := Lib.hid hg
    have hXs := hbX.size
    have halen := args_le t
    have hcnt := ho.len
    have e0 := hk0.cell 0
    have e1 := hk0.cell 1
    have e3 := hk0.cell 3
    have el := hk0.lt
    simp at e0 e1 e3
    clear h ha hs ho hk0 hbX
    go_enter Try.func65, Try.ntmps65
    go_upto_region 1 with fail
    rw [← HX.out, ← hr.out]
    clear HX
    by_cases hk : t.kind = 0
    · have hkb : (t.kind == 0) = true := by simp [hk]
      clear hk
      go_wp2_with fail
      refine (find_any bs t.n X (H.out.keep (fun b hb => HBX.out.block b (Nat.lt_of_lt_of_le hb hBw)) (fun b hb => Nat.lt_of_lt_of_le hb (Nat.le_trans hBw hXs))) (by omega)).mono ?_
      rintro e w2 ⟨⟨k', rfl, hfr⟩, rfl⟩
      rcases hfr with rfl | ⟨m, rfl, x, hx, hxv⟩
      · go_wp2_with fail
        go_ret
        exact ⟨_, V, l, rfl, HS.out, .inl rfl, HKV.out, Nat.le_refl _, hlen⟩
      · have hm : m < bs.length := (List.getElem?_eq_some_iff.1 hx).1
        have hneg : decide ((m : Int) < 0) = false := by simp
        have HXX := Lib.hid hx
        have HXV := Lib.hid hxv
        clear hx hxv
        go_wp2_with fail
        go_loopw [10] (fun i wr => ∃ k : Nat, k ≤ l.length ∧ i = .int .i64 (k : Int) ∧ Hid (Below X.heap.size X wr) ∧ Hid (∀ (j : Nat) z, j < k → l[j]? = some z → z ≠ t.n)) (fun i _ => l.length - (intOf i).toNat)
        case atStart => exact ⟨0, by omega, rfl, Lib.hid (Below.refl _ _), Lib.hid fun j z hj => absurd hj (by omega)⟩
        case round =>
          obtain ⟨k, hk, rfl, HB, HT⟩ := hrel
          have hsn := HS.out.next HB.out
          obtain ⟨Va, ca, rfl⟩ := own_form hsn.row
          have s0 := hsn.box.cell 0
          have sl := hsn.box.lt
          simp at s0
          have hkr := (HK.out.below HB.out el)
          have r1 := hkr.cell 1
          have rl := hkr.lt
          simp at r1
          have HSN := Lib.hid hsn
          have HKR := Lib.hid hkr
          clear hsn hkr
          by_cases hlt : k < l.length
          · obtain ⟨A9, c9, e9, hI⟩ := own_ints HSN.out.row (by omega)
            injection e9 with e9 _ e10
            subst e9 e10
            obtain ⟨b, off, y, rfl, hbI, hy, h1⟩ := hI.at hlt
            have HY := Lib.hid hy
            obtain ⟨D0, hD0⟩ : ∃ X, Hid (X = wr.drew) := ⟨_, rfl⟩
            have hd0 : Below wr.heap.size wr D0 := by rw [hD0.out]; exact bDrewN (Below.refl _ _) 1
            have hS0 : (fun w' => w'.cell? ⟨q, 0, none⟩ = some (.slice (some ⟨b, off, none⟩) l.length ca) ∧ w'.cell? ⟨b, off + k, none⟩ = some (.int .i64 y) ∧ w'.cell? ⟨r, 1, none⟩ = some (.int .i64 t.n)) D0 := ⟨(hd0.cell (p := ⟨q, _, none⟩) sl).trans s0, (hd0.cell (p := ⟨b, _, none⟩) hbI).trans h1, (hd0.cell (p := ⟨r, _, none⟩) rl).trans r1⟩
            have HD := Lib.hid (HB.out.trans (hd0.mono HB.out.size))
            clear hI hy
            go_upto_region 8 with fail
            refine wp_region_N (fun w' => w'.cell? ⟨q, 0, none⟩ = some (.slice (some ⟨b, off, none⟩) l.length ca) ∧ w'.cell? ⟨b, off + k, none⟩ = some (.int .i64 y) ∧ w'.cell? ⟨r, 1, none⟩ = some (.int .i64 t.n)) (fun _ => true) (by kernel_rfl) ?_
            rw [← hD0.out]
            clear hD0 hd0
            refine wpAnyN_take (i := 0) (v := ?v1) rfl (by kernel_rfl) (by kernel_rfl) (by kernel_rfl) (by kernel_rfl) (fun _ _ _ h => h) (Or.inl ⟨by rfl, ?hy1⟩) (by assumption) ?_
            case hy1 => intro w hSw; obtain ⟨a0, a1, a2⟩ := hSw; go_simp; try with_reducible rfl
            simp only [Act.put, List.getElem_toArray, List.getElem_cons_zero, List.setIfInBounds_toArray, List.set_cons_zero, List.set_cons_succ]
            refine wpAnyN_take (i := 1) (v := ?v2) rfl (by kernel_rfl) (by kernel_rfl) (by kernel_rfl) (by kernel_rfl) (fun _ _ _ h => h) (Or.inl ⟨by rfl, ?hy2⟩) (by assumption) ?_
            case hy2 => intro w hSw; obtain ⟨a0, a1, a2⟩ := hSw; go_simp; try with_reducible rfl
            simp only [Act.put, List.getElem_toArray, List.getElem_cons_zero, List.getElem_cons_succ, List.setIfInBounds_toArray, List.set_cons_zero, List.set_cons_succ]
            refine wpAnyN_take (i := 2) (v := ?v3) rfl (by kernel_rfl) (by kernel_rfl) (by kernel_rfl) (by kernel_rfl) (fun _ _ _ h => h) (Or.inl ⟨by rfl, ?hy3⟩) (by assumption) ?_
            case hy3 => intro w hSw; obtain ⟨a0, a1, a2⟩ := hSw; go_simp; try with_reducible rfl
            simp only [Act.put, List.getElem_toArray, List.getElem_cons_zero, List.getElem_cons_succ, List.setIfInBounds_toArray, List.set_cons_zero, List.set_cons_succ]
            refine wpAnyN_take (i := 3) (v := ?v4) rfl (by kernel_rfl) (by kernel_rfl) (by kernel_rfl) (by kernel_rfl) (fun _ _ _ h => h) (Or.inl ⟨by rfl, ?hy4⟩) (by assumption) ?_
            case hy4 => intro w hSw; obtain ⟨a0, a1, a2⟩ := hSw; go_simp; try with_reducible rfl
            simp only [Act.put, List.getElem_toArray, List.getElem_cons_zero, List.getElem_cons_succ, List.setIfInBounds_toArray, List.set_cons_zero, List.set_cons_succ]
            refine wpAnyN_take (i := 4) (v := ?v5) rfl (by kernel_rfl) (by kernel_rfl) (by kernel_rfl) (by kernel_rfl) (fun _ _ _ h => h) (Or.inl ⟨by rfl, ?hy5⟩) (by assumption) ?_
            case hy5 => intro w hSw; obtain ⟨a0, a1, a2⟩ := hSw; go_simp; try with_reducible rfl
            simp only [Act.put, List.getElem_toArray, List.getElem_cons_zero, List.getElem_cons_succ, List.setIfInBounds_toArray, List.set_cons_zero, List.set_cons_succ]
            refine wpAnyN_take (i := 5) (v := ?v6) rfl (by kernel_rfl) (by kernel_rfl) (by kernel_rfl) (by kernel_rfl) (fun _ _ _ h => h) (Or.inl ⟨by rfl, ?hy6⟩) (by assumption) ?_
            case hy6 => intro w hSw; obtain ⟨a0, a1, a2⟩ := hSw; go_simp; try with_reducible rfl
            simp only [Act.put, List.getElem_toArray, List.getElem_cons_zero, List.getElem_cons_succ, List.setIfInBounds_toArray, List.set_cons_zero, List.set_cons_succ]
            refine wpAnyN_take (i := 6) (v := ?v7) rfl (by kernel_rfl) (by kernel_rfl) (by kernel_rfl) (by kernel_rfl) (fun _ _ _ h => h) (Or.inl ⟨by rfl, ?hy7⟩) (by assumption) ?_
            case hy7 => intro w hSw; obtain ⟨a0, a1, a2⟩ := hSw; go_simp; try with_reducible rfl
            simp only [Act.put, List.getElem_toArray, List.getElem_cons_zero, List.getElem_cons_succ, List.setIfInBounds_toArray, List.set_cons_zero, List.set_cons_succ]
            refine wpAnyN_take (i := 7) (v := ?v8) rfl (by kernel_rfl) (by kernel_rfl) (by kernel_rfl) (by kernel_rfl) (fun _ _ _ h => h) (Or.inl ⟨by rfl, ?hy8⟩) (by assumption) ?_
            case hy8 => intro w hSw; obtain ⟨a0, a1, a2⟩ := hSw; go_simp; try with_reducible rfl
            simp only [Act.put, List.getElem_toArray, List.getElem_cons_zero, List.getElem_cons_succ, List.setIfInBounds_toArray, List.set_cons_zero, List.set_cons_succ]
            refine wpAnyN_take (i := 8) (v := ?v9) rfl (by kernel_rfl) (by kernel_rfl) (by kernel_rfl) (by kernel_rfl) (fun _ _ _ h => h) (Or.inl ⟨by rfl, ?hy9⟩) (by assumption) ?_
            case hy9 => intro w hSw; obtain ⟨a0, a1, a2⟩ := hSw; go_simp; try with_reducible rfl
            simp only [Act.put, List.getElem_toArray, List.getElem_cons_zero, List.getElem_cons_succ, List.setIfInBounds_toArray, List.set_cons_zero, List.set_cons_succ]
            refine wpAnyN_done (by kernel_rfl) ?_ _
            by_cases hyt : y = t.n
            · have hyb : (y == t.n) = true := by simp [hyt]
              clear hyt
              go_wp2_with fail
              go_ret
              have hkv := HKV.out.trans (.inl rfl) (KeptV.of (q := q) (V := _) HD.out)
              exact ⟨_, _, l, rfl, HS.out.next HD.out, .inl rfl, hkv, Nat.le_refl _, hlen⟩
            · have hyb : (y == t.n) = false := by simp [hyt]
              have HYT := Lib.hid hyt
              clear hyt
              go_wp2_with fail
              exact ⟨⟨k + 1, by omega, by go_num, HD, Lib.hid fun j z hj hz => by
                rcases Nat.lt_or_ge j k with h | h
                · exact HT.out j z h hz
                · rw [show j = k by omega, HY.out] at hz
                  injection hz with hz
                  rw [← hz]
                  exact HYT.out⟩, by simp [intOf]; omega⟩

          · have hnot : t.n ∉ l := fun hm => by
              obtain ⟨j, hj⟩ := List.mem_iff_getElem?.1 hm
              exact HT.out j _ (by have := (List.getElem?_eq_some_iff.1 hj).1; omega) hj rfl
            have hUlt : Un bs (l ++ [t.n]) + 1 ≤ Un bs l := by
              have h1 := Un_lt (l := l) (List.mem_of_getElem? HXX.out) (by rw [HXV.out]; exact hnot)
              rwa [HXV.out] at h1
            have HNU := Lib.hid hUlt
            obtain ⟨D0, hD0⟩ : ∃ X, Hid (X = wr.drew) := ⟨_, rfl⟩
            have hd0 : Below wr.heap.size wr D0 := by rw [hD0.out]; exact bDrewN (Below.refl _ _) 1
            have hsD := HSN.out.next hd0
            have hkD := HKR.out.below hd0 rl
            have hS0 : (fun w' => Blk w' q 50 #[.slice Va l.length ca] ∧ Blk w' r 47 #[.int .i64 t.kind, .int .i64 t.n, .string t.name, .slice At t.args.length ct]) D0 := ⟨hsD.box, hkD⟩
            have HSD := Lib.hid hsD
            have HD := Lib.hid (HB.out.trans (hd0.mono HB.out.size))
            have hDs := HD.out.size
            clear hnot hUlt
            go_upto_region 10 with fail
            refine wp_region_N (fun w' => Blk w' q 50 #[.slice Va l.length ca] ∧ Blk w' r 47 #[.int .i64 t.kind, .int .i64 t.n, .string t.name, .slice At t.args.length ct]) (fun i => decide (i ≠ 9)) (by kernel_rfl) ?_
            rw [← hD0.out]
            clear hD0 hd0 hsD hkD
            refine wpAnyN_take (i := 0) (v := ?v10) rfl (by kernel_rfl) (by kernel_rfl) (by kernel_rfl) (by kernel_rfl) (fun _ _ _ h => h) (Or.inl ⟨by rfl, ?hy10⟩) (by assumption) ?_
            case hy10 => intro w hSw; obtain ⟨b0, b1⟩ := hSw; have a0 := b0.cell 0; have a1 := b1.cell 1; simp at a0 a1; go_simp; try with_reducible rfl
            simp only [Act.put, List.getElem_toArray, List.getElem_cons_zero, List.setIfInBounds_toArray, List.set_cons_zero, List.set_cons_succ]
            refine wpAnyN_take (i := 1) (v := ?v11) rfl (by kernel_rfl) (by kernel_rfl) (by kernel_rfl) (by kernel_rfl) (fun _ _ _ h => h) (Or.inl ⟨by rfl, ?hy11⟩) (by assumption) ?_
            case hy11 => intro w hSw; obtain ⟨b0, b1⟩ := hSw; have a0 := b0.cell 0; have a1 := b1.cell 1; simp at a0 a1; go_simp; try with_reducible rfl
            simp only [Act.put, List.getElem_toArray, List.getElem_cons_zero, List.getElem_cons_succ, List.setIfInBounds_toArray, List.set_cons_zero, List.set_cons_succ]
            refine wpAnyN_take (i := 2) (v := ?v12) rfl (by kernel_rfl) (by kernel_rfl) (by kernel_rfl) (by kernel_rfl) (fun _ _ _ h => h) (Or.inl ⟨by rfl, ?hy12⟩) (by assumption) ?_
            case hy12 => intro w hSw; obtain ⟨b0, b1⟩ := hSw; have a0 := b0.cell 0; have a1 := b1.cell 1; simp at a0 a1; go_simp; try with_reducible rfl
            simp only [Act.put, List.getElem_toArray, List.getElem_cons_zero, List.getElem_cons_succ, List.setIfInBounds_toArray, List.set_cons_zero, List.set_cons_succ]
            refine wpAnyN_take (i := 3) (v := ?v13) rfl (by kernel_rfl) (by kernel_rfl) (by kernel_rfl) (by kernel_rfl) (fun _ _ _ h => h) (Or.inl ⟨by rfl, ?hy13⟩) (by assumption) ?_
            case hy13 => intro w hSw; obtain ⟨b0, b1⟩ := hSw; have a0 := b0.cell 0; have a1 := b1.cell 1; simp at a0 a1; go_simp; try with_reducible rfl
            simp only [Act.put, List.getElem_toArray, List.getElem_cons_zero, List.getElem_cons_succ, List.setIfInBounds_toArray, List.set_cons_zero, List.set_cons_succ]
            refine wpAnyN_take (i := 4) (v := ?v14) rfl (by kernel_rfl) (by kernel_rfl) (by kernel_rfl) (by kernel_rfl) (fun _ _ _ h => h) (Or.inl ⟨by rfl, ?hy14⟩) (by assumption) ?_
            case hy14 => intro w hSw; obtain ⟨b0, b1⟩ := hSw; have a0 := b0.cell 0; have a1 := b1.cell 1; simp at a0 a1; go_simp; try with_reducible rfl
            simp only [Act.put, List.getElem_toArray, List.getElem_cons_zero, List.getElem_cons_succ, List.setIfInBounds_toArray, List.set_cons_zero, List.set_cons_succ]
            refine wpAnyN_take (i := 5) (v := ?v15) rfl (by kernel_rfl) (by kernel_rfl) (by kernel_rfl) (by kernel_rfl) (fun _ _ _ h => h) (Or.inl ⟨by rfl, ?hy15⟩) (by assumption) ?_
            case hy15 => intro w hSw; obtain ⟨b0, b1⟩ := hSw; have a0 := b0.cell 0; have a1 := b1.cell 1; simp at a0 a1; go_simp; try with_reducible rfl
            simp only [Act.put, List.getElem_toArray, List.getElem_cons_zero, List.getElem_cons_succ, List.setIfInBounds_toArray, List.set_cons_zero, List.set_cons_succ]
            refine wpAnyN_one (i := 6) (by kernel_rfl) rfl (fun K hK => ?_)
            simp only [List.getElem_toArray, List.getElem_cons_zero, List.getElem_cons_succ]
            go_simp
            have hS6 : (fun w' => Blk w' q 50 #[.slice Va l.length ca] ∧ Blk w' r 47 #[.int .i64 t.kind, .int .i64 t.n, .string t.name, .slice At t.args.length ct]) (D0.alloc (.cells #[.int .i64 t.n] 2)) := ⟨hS0.1.alloc _, hS0.2.alloc _⟩
            refine hK _ _ (fun _ => hS6) ?_
            (try simp only [Act.put, List.setIfInBounds_toArray, List.set_cons_zero, List.set_cons_succ])
            refine wpAnyN_one (i := 7) (by kernel_rfl) rfl (fun K hK => ?_)
            simp only [List.getElem_toArray, List.getElem_cons_zero, List.getElem_cons_succ]
            rw [if_pos (by rfl)]
            have hblk := Blk.new D0 2 #[.int .i64 t.n]
            refine wp_append_lies _ _ _ 50 rfl B 2 i2 _ 1 8 Try.underlying50 hi2 hz2 hy2 hb2' rfl (by decide) (.slice Va l.length ca) l.length (l.map (.int .i64)) rfl (HSD.out.row.alloc _) ⟨D0.heap.size, 0, none⟩ 1 1 [.int .i64 t.n] rfl rfl ?c2 ?c3 (by omega) ?c4 ?c5 ?c6 _ rfl ?_
            case c2 =>
              intro i u hi
              have h := hblk.cell i
              rw [show (⟨D0.heap.size, 0, none⟩ : Addr).add i = ⟨D0.heap.size, i, none⟩ by cases i <;> simp [Addr.add]]
              exact h.trans (by simpa using hi)
            case c3 => simp [Value.oneCell']
            case c4 => unfold maxLen; omega
            case c5 => omega
            case c6 => simp; omega
            intro gD e8 w8 ho8 hg8 hat8 hlt8
            have hgq : Value.ownBlock (.slice Va l.length ca) ≠ some q := own_ne HSD.out.row HSD.out.box (by decide)
            have hgr : Value.ownBlock (.slice Va l.length ca) ≠ some r := hVr
            have hS8 : (fun w' => Blk w' q 50 #[.slice Va l.length ca] ∧ Blk w' r 47 #[.int .i64 t.kind, .int .i64 t.n, .string t.name, .slice At t.args.length ct]) w8 := ⟨Blk.grown hS6.1 hg8 hgq, Blk.grown hS6.2 hg8 hgr⟩
            have k8 := hS8.1
            have f0 := k8.frozen 0
            have g0 := k8.cell 0
            have l8 := k8.lt
            simp at g0
            refine hK _ _ (fun _ => hS8) ?_
            (try simp only [Act.put, List.setIfInBounds_toArray, List.set_cons_zero, List.set_cons_succ])
            refine wpAnyN_take (i := 8) (v := ?v16) rfl (by kernel_rfl) (by kernel_rfl) (by kernel_rfl) (by kernel_rfl) (fun _ _ _ h => h) (Or.inl ⟨by rfl, ?hy16⟩) (by assumption) ?_
            case hy16 => intro w hSw; obtain ⟨b0, b1⟩ := hSw; have a0 := b0.cell 0; have a1 := b1.cell 1; simp at a0 a1; go_simp; try with_reducible rfl
            simp only [Act.put, List.getElem_toArray, List.getElem_cons_zero, List.getElem_cons_succ, List.setIfInBounds_toArray, List.set_cons_zero, List.set_cons_succ]
            refine wpAnyN_one (i := 9) (by kernel_rfl) rfl (fun K hK => ?_)
            simp only [List.getElem_toArray, List.getElem_cons_zero, List.getElem_cons_succ]
            go_simp
            have hsn9 : Sn (w8.setCell ⟨q, 0, none⟩ (.slice (some ⟨gD, 0, none⟩) (l.length + 1) e8)) B q (.slice (some ⟨gD, 0, none⟩) (l.length + 1) e8) (l ++ [t.n]) := by
              have hq9 : Value.ownBlock (.slice (some ⟨gD, 0, none⟩) (l.length + 1) e8) ≠ some q := own_ne ho8 k8 (by decide)
              refine ⟨by simpa using k8.set_ 0 _, HSD.out.low, ?_⟩
              have h9 := own_stay (w' := w8.setCell ⟨q, 0, none⟩ (.slice (some ⟨gD, 0, none⟩) (l.length + 1) e8)) ho8 fun g hg => heap_setCell_other _ _ _ _ (fun e => hq9 (hg.trans (congrArg some e)))
              simpa using h9
            have hk9 : KeptV q (.slice Va l.length ca) D0 (w8.setCell ⟨q, 0, none⟩ (.slice (some ⟨gD, 0, none⟩) (l.length + 1) e8)) := ⟨(((Below.refl 0 w8).setCell (Nat.zero_le _) _).os).trans hg8.os, (((Below.refl 0 w8).setCell (Nat.zero_le _) _).tape).trans hg8.tape, (((Below.refl 0 w8).setCell (Nat.zero_le _) _).output).trans hg8.output, by have := hg8.size; simp at this ⊢; omega, fun g hg hgq' hgV => by
              rw [heap_setCell_other _ _ _ _ hgq']
              exact (hg8.block g (by simp; omega) (fun e => hgV e.symm)).trans (Below.heap_alloc D0 _ g hg)⟩
            have hlat : Lat (.slice Va l.length ca) (.slice (some ⟨gD, 0, none⟩) (l.length + 1) e8) D0.heap.size := by
              rcases hat8 with h | h
              · exact .inl h.symm
              · refine .inr fun g hg => ?_
                have e1 : gD = g := by simpa [Value.ownBlock] using hg
                have e2 : gD = (D0.alloc (.cells #[.int .i64 t.n] 2)).heap.size := h
                rw [World.size_alloc] at e2
                omega
            obtain ⟨W9, HW9⟩ : ∃ X, Hid (X = w8.setCell ⟨q, 0, none⟩ (.slice (some ⟨gD, 0, none⟩) (l.length + 1) e8)) := ⟨_, rfl⟩
            rw [← HW9.out] at hsn9 hk9 ⊢
            have HS9 := Lib.hid hsn9
            have HK9 := Lib.hid hk9
            have HL9 := Lib.hid hlat
            clear HW9 hsn9 hk9 hlat f0 g0 l8
            refine hK _ _ (fun h => absurd h (by decide)) ?_
            (try simp only [Act.put, List.setIfInBounds_toArray, List.set_cons_zero, List.set_cons_succ])
            refine wpAnyN_done (by kernel_rfl) ?_ _
            have hB9 : Below B w W9 := ((HKV.out.low HS0.out).trans (HD.out.mono (Nat.le_trans hBw hXs))).trans (HK9.out.low HSD.out)
            have hz9 := HK9.out.size
            obtain ⟨b, off, x', rfl, hb, hx', -, ⟨y0, y1, y2, y3⟩, hya⟩ := H.out.at hm
            obtain rfl : x' = x := by have h1 := HXX.out; rw [hx'] at h1; injection h1
            have hb0 : b < B := hb
            have hbl : b < W9.heap.size := by omega
            have z0 := (hB9.cell (p := ⟨b, _, none⟩) hb0).trans y0
            have z1 := (hB9.cell (p := ⟨b, _, none⟩) hb0).trans y1
            have z2 := (hB9.cell (p := ⟨b, _, none⟩) hb0).trans y2
            have z3 := (hB9.cell (p := ⟨b, _, none⟩) hb0).trans y3
            have HH9 := Lib.hid (H.out.keep (w' := W9) (fun b hb => hB9.block b hb) (fun _ h => h))
            have HYA := Lib.hid (hya.keep (w' := W9) (fun b hb => hB9.block b hb) (fun _ h => h))
            have HXO := Lib.hid (HG.out.ok _ (List.mem_of_getElem? hx'))
            have hxc := HXO.out.len
            have hcp := cnt_pos t
            have hUl := HNU.out
            have hm9 : Un bs (l ++ [t.n]) * 3000 + cnt x'.t < N := by omega
            have hl9 : (l ++ [t.n]).length + Un bs (l ++ [t.n]) ≤ bs.length := by simp; omega
            have HIH := Lib.hid (ih x'.t (l ++ [t.n]) hm9 x'.A x'.c _ W9 B q HXO.out HH9.out HYA.out HS9.out hl9)
            clear y0 y1 y2 y3 hya hx' hb hUl hm9 hl9
            go_wp2_with fail
            refine HIH.out.mono ?_
            rintro e w10 ⟨bb, V', l', rfl, hs', hlat', hkv', hU', hlen'⟩
            have HSF := Lib.hid hs'
            have hk10 := (((HKV.out.trans (.inl rfl) (KeptV.of (q := q) (V := _) HD.out)).trans (.inl rfl) HK9.out).trans (HL9.out.mono (by omega)) hkv')
            have hla10 := ((HL9.out.mono (b' := w.heap.size) (by omega)).trans hlat' (by omega))
            have HKF := Lib.hid hk10
            have HLF := Lib.hid hla10
            clear hs' hlat' hkv' hk10 hla10
            go_wp2_with fail
            go_ret
            exact ⟨bb, V', l', rfl, HSF.out, HLF.out, HKF.out, by have := HNU.out; omega, hlen'⟩

    · have hkb : (t.kind == 0) = false := by simp [hk]
      clear hk
      go_wp2_with fail
      go_loopw [11] (fun i wr => ∃ (k : Nat) (V1 : Value) (l1 : List Int), k ≤ t.args.length ∧ i = .int .i64 (k : Int) ∧ Un bs l1 ≤ Un bs l ∧ l1.length + Un bs l1 ≤ bs.length ∧ Hid (Sn wr B q V1 l1) ∧ Hid (Lat V V1 w.heap.size) ∧ Hid (KeptV q V w wr) ∧ Hid (Blk wr r 47 #[.int .i64 t.kind, .int .i64 t.n, .string t.name, .slice At t.args.length ct]) ∧ V1.ownBlock ≠ some r) (fun i _ => t.args.length - (intOf i).toNat)
      case atStart => exact ⟨0, V, l, by omega, rfl, Nat.le_refl _, hlen, HS, Lib.hid (.inl rfl), HKV, HK, hVr⟩
      case round =>
        clear HS HKV HK e0 e1 e3 el
        obtain ⟨k, V1, l1, hk, rfl, hU1, hlen1, HS, HLT, HKV, HK, hVr1⟩ := hrel
        have e3 := HK.out.cell 3
        have el := HK.out.lt
        simp at e3
        by_cases hlt : k < t.args.length
        · have hB9 : Below B w wr := HKV.out.low HS0.out
          obtain ⟨b, off, x, A', c', rfl, hb, hx, ⟨y0, y1, y2, y3⟩, hya⟩ := HA.out.at hlt
          have hb0 : b < B := hb
          have hzw := HKV.out.size
          have hbl : b < wr.heap.size := by omega
          have z0 := (hB9.cell (p := ⟨b, _, none⟩) hb0).trans y0
          have z1 := (hB9.cell (p := ⟨b, _, none⟩) hb0).trans y1
          have z2 := (hB9.cell (p := ⟨b, _, none⟩) hb0).trans y2
          have z3 := (hB9.cell (p := ⟨b, _, none⟩) hb0).trans y3
          have hxl := Tm.lt_of_at hx
          have hm9 : Un bs l1 * 3000 + cnt x < N := by omega
          have HIH := Lib.hid (ih x l1 hm9 A' c' V1 wr B q (HO.out.arg hx) (H.out.keep (w' := wr) (fun b hb => hB9.block b hb) (fun _ h => h)) (hya.keep (w' := wr) (fun b hb => hB9.block b hb) (fun _ h => h)) HS.out hlen1)
          clear y0 y1 y2 y3 hya hx hb hm9 hB9
          go_wp2_with fail
          refine HIH.out.mono ?_
          rintro e w2 ⟨bb, V2, l2, rfl, hs2, hlat2, hkv2, hU2, hlen2⟩
          have HS2 := Lib.hid hs2
          have HL2 := Lib.hid (HLT.out.trans hlat2 hzw)
          have HKV2 := Lib.hid (HKV.out.trans HLT.out hkv2)
          have HKK := Lib.hid (show Blk w2 r 47 #[.int .i64 t.kind, .int .i64 t.n, .string t.name, .slice (some ⟨b, off, none⟩) t.args.length ct] from (hkv2.block r el (Ne.symm hqr) hVr1).trans HK.out)
          have hVr2 : V2.ownBlock ≠ some r := fun e => by
            rcases hlat2 with h | h
            · exact hVr1 (h ▸ e)
            · have := h r e; omega
          clear hs2 hlat2 hkv2
          cases bb
          · go_wp2_with fail
            exact ⟨⟨k + 1, V2, l2, by omega, by go_num, by omega, hlen2, HS2, HL2, HKV2, HKK, hVr2⟩, by simp [intOf]; omega⟩
          · go_wp2_with fail
            go_ret
            exact ⟨_, V2, l2, rfl, HS2.out, HL2.out, HKV2.out, by omega, hlen2⟩

        · go_wp2_with fail
          go_ret
          exact ⟨_, V1, l1, rfl, HS.out, HLT.out, HKV.out, hU1, hlen1⟩
set_option maxHeartbeats 2000000 in
theorem within_any {A : Option Addr} {c : Nat} (bs : List Bi) (v : Int) (t : Tm) (At : Option Addr) (ct : Nat) (w : World) (h : BsAt w (Old w.heap.size) A bs) (hl : bs.length ≤ 1000000000) (hg : GoodB bs) (ha : ArgsAt w (Old w.heap.size) At t.args) (ho : TmOk t) :
    Calls Try.prog 64 #[.slice A bs.length c, .int .i64 v, t.v At ct] w fun e w' => (∃ b, e = .returned (.bool b)) ∧ Below w.heap.size w w' := by
  obtain ⟨X, HX⟩ : ∃ X, Hid (X = (w.alloc (.cells #[.int .i64 t.kind, .int .i64 t.n, .string t.name, .slice At t.args.length ct] 47)).alloc (.cells #[.slice none 0 0] 50)) := ⟨_, rfl⟩
  have hbX : Below w.heap.size w X := by rw [HX.out]; exact (bAlloc w _).alloc (by simp) _
  obtain ⟨r, hr⟩ : ∃ q, Hid (q = w.heap.size) := ⟨_, rfl⟩
  obtain ⟨q, hq⟩ : ∃ q, Hid (q = w.heap.size + 1) := ⟨_, rfl⟩
  have hk0 : Blk X r 47 #[.int .i64 t.kind, .int .i64 t.n, .string t.name, .slice At t.args.length ct] := by rw [HX.out, hr.out]; exact (Blk.new w _ _).alloc _
  have hk1 : Blk X q 50 #[.slice none 0 0] := by
    rw [HX.out, hq.out]
    have h1 := Blk.new (w.alloc (.cells #[.int .i64 t.kind, .int .i64 t.n, .string t.name, .slice At t.args.length ct] 47)) 50 #[.slice none 0 0]
    rw [World.size_alloc] at h1
    exact h1
  have hs : Sn X w.heap.size q (.slice none 0 0) [] := ⟨hk1, by rw [hq.out]; omega, World.ownsRow_nil _ _ _ _⟩
  have HO := Lib.hid (occurs_any (A := A) (c := c) bs v hl hg _ t [] (Nat.lt_succ_self _) At ct (.slice none 0 0) X w.heap.size q ho (h.keep (fun b hb => hbX.block b hb) (fun _ h => h)) (ha.keep (fun b hb => hbX.block b hb) (fun _ h => h)) hs (by simpa using Un_nil bs))
  have HS := Lib.hid hs
  have HB := Lib.hid hbX
  have e0 := hk0.cell 0
  have e1 := hk0.cell 1
  have e2 := hk0.cell 2
  have e3 := hk0.cell 3
  have el := hk0.lt
  simp at e0 e1 e2 e3
  clear h ha hs hk0 hk1 hbX hg ho
  go_enter Try.func64, Try.ntmps64
  go_upto_region 2 with fail
  rw [← HX.out, ← hq.out, ← hr.out]
  clear HX
  go_wp2_with fail
  refine HO.out.mono ?_
  rintro e w2 ⟨b, V', l', rfl, -, -, hkv, -, -⟩
  have HF := Lib.hid (HB.out.trans (hkv.low HS.out))
  clear hkv
  go_wp2_with fail
  go_ret
  exact ⟨⟨b, rfl⟩, HF.out⟩
end Go.Proofs.Ytpkpdjekoghkcaa
