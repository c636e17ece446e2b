/-
  Walk: a term is followed through bindings.
-/
import Derived.Test.YtpkpdjekoghkcaaUa
import Derived.Deep.LoopGhost
namespace Go.Proofs.Ytpkpdjekoghkcaa
open Go.RowKit

/-- a term that may stand in bindings -/
structure TmOk (t : Tm) : Prop where
  ok : okT t = true
  len : cnt t ≤ 2000
/-- bindings whose terms are valid; a variable is bound to a lesser variable alone -/
structure GoodB (bs : List Bi) : Prop where
  ok : ∀ x ∈ bs, TmOk x.t
  less : ∀ x ∈ bs, x.t.kind = 0 → x.t.n < x.var
theorem TmOk.n {t : Tm} (h : TmOk t) (hk : t.kind = 0) : 0 ≤ t.n := by
  have h1 := h.ok
  rw [okT_eq] at h1
  simp only [Bool.and_eq_true] at h1
  have h2 := h1.1
  unfold nodeB at h2
  rw [hk] at h2
  simp at h2
  exact h2.1.1.1
theorem okT_at {l : List Tm} {i : Nat} {x : Tm} (h : okT.go l = true) (hx : l[i]? = some x) : okT x = true := by
  induction l generalizing i with
  | nil => simp at hx
  | cons y r ih =>
    simp only [okT.go, Bool.and_eq_true] at h
    cases i with
    | zero => simp at hx; subst hx; exact h.1
    | succ i => exact ih h.2 (by simpa using hx)
theorem TmOk.arg {t x : Tm} {i : Nat} (h : TmOk t) (hx : t.args[i]? = some x) : TmOk x := by
  have h1 := h.ok
  rw [okT_eq] at h1
  simp only [Bool.and_eq_true] at h1
  have := Tm.lt_of_at hx
  have := h.len
  exact ⟨okT_at h1.2 hx, by omega⟩
/-- how many rounds may follow -/
def folN (t : Tm) : Nat := if t.kind = 0 then t.n.toNat + 1 else 0
/-- a term behind Follow -/
def FolR (t t' : Tm) : Prop := TmOk t' ∧ (t.kind ≠ 0 → t' = t) ∧ (t'.kind = 0 → t.kind = 0)
set_option maxHeartbeats 2000000 in
theorem follow_any {A : Option Addr} {c : Nat} {F : Nat → Prop} (bs : List Bi) (t : Tm) (At : Option Addr) (ct : Nat) (w : World) (hF : ∀ b, F b → b < w.heap.size) (h : BsAt w F A bs) (hl : bs.length ≤ 1000000000000) (hg : GoodB bs) (ha : ArgsAt w F At t.args) (ho : TmOk t) :
    Calls Try.prog 62 #[.slice A bs.length c, t.v At ct] w fun e w' => (∃ t' A' c', e = .returned (t'.v A' c') ∧ ArgsAt w F A' t'.args ∧ FolR t t') ∧ Below w.heap.size w w' := by
  have H := Lib.hid h
  have HG := Lib.hid hg
  have HA := Lib.hid ha
  have HO := Lib.hid ho
  obtain ⟨W, HW⟩ : ∃ X, Hid (X = (w.alloc (.cells #[.int .i64 t.kind, .int .i64 t.n, .string t.name, .slice At t.args.length ct] 47)).alloc (.cells #[.int .i64 0, .int .i64 0, .string { data := #[] }, .slice none 0 0] 47)) := ⟨_, rfl⟩
  have hbW : Below w.heap.size w W := by rw [HW.out]; exact (bAlloc w _).alloc (by simp) _
  obtain ⟨q, hq⟩ : ∃ q, Hid (q = w.heap.size) := ⟨_, rfl⟩
  obtain ⟨r, hr⟩ : ∃ q, Hid (q = w.heap.size + 1) := ⟨_, rfl⟩
  have hk0 : Blk W q 47 #[.int .i64 t.kind, .int .i64 t.n, .string t.name, .slice At t.args.length ct] := by rw [HW.out, hq.out]; exact (Blk.new w _ _).alloc _
  have hk1 : Blk W r 47 #[.int .i64 0, .int .i64 0, .string { data := #[] }, .slice none 0 0] := by
    rw [HW.out, hr.out]
    have h1 := Blk.new (w.alloc (.cells #[.int .i64 t.kind, .int .i64 t.n, .string t.name, .slice At t.args.length ct] 47)) 47 #[.int .i64 0, .int .i64 0, .string { data := #[] }, .slice none 0 0]
    rw [World.size_alloc] at h1
    exact h1
  have hqr : q ≠ r := by rw [hq.out, hr.out]; omega
  have hqw : w.heap.size ≤ q := by rw [hq.out]; exact Nat.le_refl _
  have hrw : w.heap.size ≤ r := by rw [hr.out]; omega
  have HB := Lib.hid hbW
  have HK0 := Lib.hid hk0
  have HK1 := Lib.hid hk1
  clear h hg ha ho hbW hk0 hk1
  go_enter Try.func62, Try.ntmps62
  go_upto_block 0 with fail
  rw [← HW.out, ← hr.out, ← hq.out]
  clear HW
  go_wp2_with fail
  go_loopg [5] (folN t) (fun m k wr => ∃ t' A' c', m = folN t' ∧ Hid (Below w.heap.size w wr) ∧ Hid (Blk wr q 47 #[.int .i64 t'.kind, .int .i64 t'.n, .string t'.name, .slice A' t'.args.length c']) ∧ Hid (Blk wr r 47 #[.int .i64 0, .int .i64 0, .string { data := #[] }, .slice none 0 0]) ∧ Hid (ArgsAt w F A' t'.args) ∧ Hid (FolR t t'))
  case atStart => exact ⟨t, At, ct, rfl, HB, HK0, HK1, HA, Lib.hid ⟨HO.out, fun _ => rfl, fun h => h⟩⟩
  case round =>
    clear HB HK0 HK1 HA
    obtain ⟨t', A', c', rfl, HB, HK0, HK1, HA, HF⟩ := hrel
    have e0 := HK0.out.cell 0
    have e1 := HK0.out.cell 1
    have e2 := HK0.out.cell 2
    have e3 := HK0.out.cell 3
    have f0 := HK0.out.frozen 0
    have f1 := HK0.out.frozen 1
    have f2 := HK0.out.frozen 2
    have f3 := HK0.out.frozen 3
    have el := HK0.out.lt
    have g0 := HK1.out.cell 0
    have g1 := HK1.out.cell 1
    have g2 := HK1.out.cell 2
    have g3 := HK1.out.cell 3
    have p0 := HK1.out.frozen 0
    have p1 := HK1.out.frozen 1
    have p2 := HK1.out.frozen 2
    have p3 := HK1.out.frozen 3
    have gl := HK1.out.lt
    simp at e0 e1 e2 e3 g0 g1 g2 g3
    have hfin : Below w.heap.size w ((((wr.setCell ⟨r, 0, none⟩ (.int .i64 t'.kind)).setCell ⟨r, 1, none⟩ (.int .i64 t'.n)).setCell ⟨r, 2, none⟩ (.string t'.name)).setCell ⟨r, 3, none⟩ (.slice A' t'.args.length c')) := (((HB.out.setCell hrw _).setCell hrw _).setCell hrw _).setCell hrw _
    have HFIN := Lib.hid hfin
    clear hfin
    by_cases hk : t'.kind = 0
    · have hkb : (t'.kind == 0) = true := by simp [hk]
      have HKB := Lib.hid hk
      clear hk
      go_wp2_with fail
      refine (find_any bs t'.n wr (H.out.keep (fun b hb => HB.out.block b (hF b hb)) (fun b hb => Nat.lt_of_lt_of_le (hF b hb) HB.out.size)) hl).mono ?_
      rintro e w2 ⟨⟨k', rfl, hfr⟩, rfl⟩
      rcases hfr with rfl | ⟨m, rfl, x, hx, hxv⟩
      · go_wp2_with fail
        refine bodyPost_ret (v := t'.v A' c') (by simp only [results, Try.results62]; go_simp) rfl ⟨⟨t', A', c', rfl, HA.out, HF.out⟩, HFIN.out⟩
      · have hm : m < bs.length := (List.getElem?_eq_some_iff.1 hx).1
        obtain ⟨b, off, x', rfl, hb, hx', -, ⟨y0, y1, y2, y3⟩, hya⟩ := H.out.at hm
        obtain rfl : x' = x := by rw [hx] at hx'; injection hx' with e; exact e.symm
        have hb0 : b < w.heap.size := hF b hb
        have hbl : b < wr.heap.size := Nat.lt_of_lt_of_le hb0 HB.out.size
        have z0 := (HB.out.cell (p := ⟨b, _, none⟩) hb0).trans y0
        have z1 := (HB.out.cell (p := ⟨b, _, none⟩) hb0).trans y1
        have z2 := (HB.out.cell (p := ⟨b, _, none⟩) hb0).trans y2
        have z3 := (HB.out.cell (p := ⟨b, _, none⟩) hb0).trans y3
        have hmem := List.mem_of_getElem? hx
        have HX := Lib.hid (HG.out.ok _ hmem)
        have HLS := Lib.hid (HG.out.less _ hmem)
        have HXV := Lib.hid hxv
        have HYA := Lib.hid hya
        have hneg : decide ((m : Int) < 0) = false := by simp
        have hqb : q ≠ b := by omega
        clear hx hx' hxv hya y0 y1 y2 y3 hmem hb
        go_wp2_with fail
        go_roundg (folN x'.t)
        case measure =>
          have h1 := HKB.out
          have h2 := HF.out.1.n h1
          unfold folN
          rw [if_pos h1]
          split
          · rename_i h3
            have := HLS.out h3
            have := HXV.out
            have := HX.out.n h3
            omega
          · omega
        case rel =>
          refine ⟨x'.t, x'.A, x'.c, rfl, Lib.hid ?_, Lib.hid ?_, Lib.hid ?_, HYA, Lib.hid ⟨HX.out, fun h => absurd (HF.out.2.2 HKB.out) h, fun _ => HF.out.2.2 HKB.out⟩⟩
          · exact (((HB.out.setCell hqw _).setCell hqw _).setCell hqw _).setCell hqw _
          · have h1 := (((HK0.out.set_ 0 (.int .i64 x'.t.kind)).set_ 1 (.int .i64 x'.t.n)).set_ 2 (.string x'.t.name)).set_ 3 (.slice x'.A x'.t.args.length x'.c)
            simpa using h1
          · exact (((HK1.out.far (by simpa using Ne.symm hqr) _).far (by simpa using Ne.symm hqr) _).far (by simpa using Ne.symm hqr) _).far (by simpa using Ne.symm hqr) _
    · have hkb : (t'.kind == 0) = false := by simp [hk]
      clear hk
      go_wp2_with fail
      refine bodyPost_ret (v := t'.v A' c') (by simp only [results, Try.results62]; go_simp) rfl ⟨⟨t', A', c', rfl, HA.out, HF.out⟩, HFIN.out⟩
end Go.Proofs.Ytpkpdjekoghkcaa
