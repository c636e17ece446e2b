/-
  Walks: the values of expressions, each and value.
-/
import Derived.Test.YtcagaaacfcpoeaaGreatCi
import Derived.Deep.AppendLies
namespace Go.Proofs.YtcagaaacfcpoeaaGreat
open Go.RowKit

def EndV (w : World) (r : Except Tm Int) (e : Ending) (w' : World) : Prop := match r with
  | .ok n => e = .returned (.int .i64 n)
  | .error b => Raised w b e w'
def EndVs (w : World) (r : Except Tm (List Int)) (e : Ending) (w' : World) : Prop := match r with
  | .ok vs => ∃ v, e = .returned v ∧ w'.ownsRow w.heap.size 2 1 v vs.length (vs.map (.int .i64))
  | .error b => Raised w b e w'
theorem Raised.up {w w1 w' : World} {b : Tm} {e : Ending} (h : Raised w1 b e w') (hz : w.heap.size ≤ w1.heap.size) : Raised w b e w' := by
  obtain ⟨A, c, h1, h2⟩ := h
  exact ⟨A, c, h1, h2.keep (fun _ _ => rfl) (fun b hb => ⟨Nat.le_trans hz hb.1, hb.2⟩)⟩
def ValOK (N : Nat) : Prop := ∀ (t : Tm), cnt t < N → okT t = true → rngT t = true → ∀ (A : Option Addr) (c : Nat) (w : World), ArgsAt w (Old w.heap.size) A t.args → Calls Tryz.prog 24 #[.agg #[], t.v A c] w fun e w' => EndV w (valT t) e w' ∧ Below w.heap.size w w'
theorem valT_go_err {l : List Tm} {k : Nat} {x b : Tm} {vs : List Int} (h : valT.go (l.take k) = .ok vs) (hx : l[k]? = some x) (hb : valT x = .error b) : valT.go l = .error b := by
  have h1 : valT.go (l.take (k + 1)) = .error b := by
    rw [List.take_add_one, hx, Option.toList_some, valT_go_snoc, h]
    dsimp only
    rw [hb]
  rw [← List.take_append_drop (k + 1) l, valT_go_app, h1]
theorem cntgo_at {l : List Tm} {i : Nat} {x : Tm} (h : l[i]? = some x) : cnt x ≤ cnt.go l := by
  induction l generalizing i with
  | nil => simp at h
  | cons y r ih =>
    simp only [cnt.go]
    cases i with
    | zero => simp at h; subst h; omega
    | succ i => have := ih (i := i) (by simpa using h); omega
@[reducible] def fv22 : Value := .func (.func 24) #[.agg #[]] #[]
set_option maxHeartbeats 4000000 in
theorem each38_of (N : Nat) (hN : ValOK N) (l : List Tm) (hl : cnt.go l < N) (ho : okT.go l = true) (hr : rngT.go l = true) (h2 : l.length ≤ 4000) (A : Option Addr) (c : Nat) (w : World) (ha : ArgsAt w (Old w.heap.size) A l) :
    Calls Tryz.prog 35 #[.slice A l.length c, fv22] w fun e w' => EndVs w (valT.go l) e w' ∧ Below w.heap.size w w' := by
  obtain ⟨i0, hi, hz0, hz1, hz2⟩ := info_parts info2
  have HA := Lib.hid ha
  have HO := Lib.hid ho
  have HRG := Lib.hid hr
  have HN := Lib.hid hN
  clear ha ho hr hN
  go_enter Tryz.func35, Tryz.ntmps35
  go_wp2_with fail
  go_loopw [10, 5] (fun i v wr => ∃ k vs, k ≤ l.length ∧ i = .int .i64 ((k : Nat) : Int) ∧ Hid (valT.go (l.take k) = .ok vs) ∧ Hid (wr.ownsRow w.heap.size 2 1 v vs.length (vs.map (.int .i64))) ∧ Hid (Below w.heap.size w wr)) (fun i _ _ => l.length - (intOf i).toNat)
  case atStart => exact ⟨0, [], by omega, rfl, Lib.hid (by simp [valT.go]), Lib.hid (World.ownsRow_nil _ _ _ _), Lib.hid (Below.refl _ _)⟩
  case round =>
    obtain ⟨k, vs, hk, rfl, HV, HW, HB⟩ := hrel
    obtain ⟨Av, cv, rfl⟩ := own_form HW.out
    have hvl : vs.length = k := by have := valT_go_len HV.out; rw [List.length_take] at this; omega
    have HVL := Lib.hid hvl
    have hv4 : vs.length ≤ 4000 := by omega
    clear hvl
    by_cases hlt : k < l.length
    · obtain ⟨b, off, x, A', c', rfl, hb, hx, ⟨y0, y1, y2, y3⟩, hA'⟩ := HA.out.at hlt
      have hcell : ∀ o, wr.cell? ⟨b, o, none⟩ = w.cell? ⟨b, o, none⟩ := fun o => World.cell?_of_block (w := w) (w' := wr) (a := ⟨b, o, none⟩) (HB.out.block b hb)
      have q0 := (hcell _).trans y0
      have q1 := (hcell _).trans y1
      have q2 := (hcell _).trans y2
      have q3 := (hcell _).trans y3
      have hz := HB.out.size
      have lb : b < wr.heap.size := Nat.lt_of_lt_of_le hb hz
      have HX := Lib.hid hx
      have HAx := Lib.hid hA'
      clear hx y0 y1 y2 y3 hA' hb hcell
      have hxl := cntgo_at HX.out
      have hyp := HN.out x (by omega) (okT_at HO.out HX.out) (rngT_at HRG.out HX.out) A' c' (wr.alloc (.cells #[.int .i64 (x).kind, .int .i64 (x).n, .string (x).name, .slice A' (x).args.length c'] 24)) (HAx.out.keep (fun b hb => (Below.heap_alloc _ _ b (Nat.lt_of_lt_of_le hb hz)).trans (HB.out.block b hb)) (fun b hb => by have : b < w.heap.size := hb; simp; omega))
      have HYP := Lib.hid hyp
      clear hyp
      go_wp2_with fail
      refine HYP.out.mono ?_
      rintro e w2 ⟨hv, hb2⟩
      have hzw2 := hb2.size
      simp at hzw2
      have HB2 := Lib.hid (bNext (HB.out.alloc hz _) hb2)
      cases hxv : valT x with
      | error bb =>
        rw [hxv] at hv
        obtain ⟨A9, c9, rfl, h9⟩ := hv
        refine ⟨rfl, ?_, HB2.out⟩
        rw [valT_go_err HV.out HX.out hxv]
        exact ⟨A9, c9, rfl, h9.keep (fun _ _ => rfl) (fun b hb => ⟨by have := hb.1; simp at this; omega, hb.2⟩)⟩
      | ok n =>
        rw [hxv] at hv
        have hv' : e = .returned (.int .i64 n) := hv
        subst hv'
        have HXV := Lib.hid hxv
        have HO2 := Lib.hid (show w2.ownsRow w.heap.size 2 1 (.slice Av vs.length cv) vs.length (vs.map (.int .i64)) from own_stay (HW.out.alloc (.cells #[.int .i64 (x).kind, .int .i64 (x).n, .string (x).name, .slice A' (x).args.length c'] 24)) (fun g hg => hb2.block g (by have := (HW.out.lt g hg).2; simp; omega)))
        clear hxv hb2 q0 q1 q2 q3
        go_wp2_with (at_builtin; refine wpList_append_lies _ rfl (.tmp 14) (.tmp 18) 50 rfl w.heap.size 2 i0 _ 1 8 Tryz.underlying50 hi hz0 hz1 hz2 rfl (by decide) (.slice Av vs.length cv) vs.length (vs.map (.int .i64)) rfl (HO2.out.alloc _) ⟨w2.heap.size, 0, none⟩ 1 1 [.int .i64 n] rfl rfl ?c1 ?c2 (by decide) ?c3 ?c4 ?c5 (w2.heap.size + 1) ?c6 ?_)
        case c1 => exact World.news_of_block (cs := #[.int .i64 n]) (t := 2) (fr := (0, 0)) (heap_alloc_new w2 _)
        case c2 => simp [Value.oneCell']
        case c3 => unfold maxLen; omega
        case c4 => omega
        case c5 => simp; omega
        case c6 => simp
        intro gg cap w3 hown3 hg3 _ _
        have HO3 := Lib.hid (show w3.ownsRow w.heap.size 2 1 (.slice (some ⟨gg, 0, none⟩) (vs ++ [n]).length cap) (vs ++ [n]).length ((vs ++ [n]).map (.int .i64)) by rw [List.map_append, List.length_append]; exact hown3)
        have HB3 := Lib.hid (bGrown (HB2.out.alloc (by omega) _) (HO2.out.alloc _) hg3 (by simp; omega) (Nat.le_refl _))
        have HV3 := Lib.hid (show valT.go (l.take (k + 1)) = .ok (vs ++ [n]) by
          rw [List.take_add_one, HX.out, Option.toList_some, valT_go_snoc, HV.out]
          dsimp only
          rw [HXV.out])
        clear hown3 hg3
        go_wp2_with fail
        exact ⟨⟨k + 1, vs ++ [n], by omega, by go_num, HV3, by simpa using HO3, HB3⟩, by simp [intOf]; omega⟩
    · obtain rfl : k = l.length := by omega
      rw [List.take_length] at HV
      go_wp2_with fail
      refine bodyPost_ret (v := .slice Av vs.length cv) (by simp only [results, Tryz.results35]; go_simp) rfl ⟨?_, HB.out⟩
      rw [HV.out]
      exact ⟨_, rfl, HW.out⟩
end Go.Proofs.YtcagaaacfcpoeaaGreat
