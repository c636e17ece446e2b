/-
  Walks: the program counts the nodes of a term by a closure, and says whether it is valid.
-/
import Derived.Test.YtcagaaacfcpoeaaGreatTb
import Derived.Test.YtcagaaacfcpoeaaGreatFam
import Derived.Test.YtcagaaacfcpoeaaGreatRegN
import Derived.Deep.RegionHeld3
namespace Go.Proofs.YtcagaaacfcpoeaaGreat
open Go.RowKit

theorem gTrans {w w1 w2 : World} {g : Option Nat} (h : w.grownBy w1 g) (k : w1.grownBy w2 g) : w.grownBy w2 g :=
  ⟨k.os.trans h.os, k.tape.trans h.tape, k.output.trans h.output, Nat.le_trans h.size k.size, fun i hi hne => (k.block i (Nat.lt_of_lt_of_le hi h.size) hne).trans (h.block i hi hne)⟩
theorem gAlloc (w : World) (o : Obj) (g : Option Nat) : w.grownBy (w.alloc o) g :=
  ⟨rfl, rfl, rfl, by simp, fun i hi _ => Below.heap_alloc w o i hi⟩
theorem gSet (w : World) (g i : Nat) (v : Value) : w.grownBy (w.setCell ⟨g, i, none⟩ v) (some g) :=
  ⟨rfl, rfl, rfl, by simp [World.setCell], fun k _ hne => heap_setCell_other w _ k v (fun e => hne (by rw [e]))⟩
theorem gDrewN (w : World) (n : Nat) (g : Option Nat) : w.grownBy (w.drewN n) g := ⟨rfl, rfl, rfl, Nat.le_refl _, fun _ _ _ => rfl⟩

theorem gCell {w w2 : World} {bl b o : Nat} (h : w.grownBy w2 (some bl)) (hb : b < w.heap.size) (hne : b ≠ bl) : w2.cell? ⟨b, o, none⟩ = w.cell? ⟨b, o, none⟩ :=
  World.cell?_of_block (w := w) (w' := w2) (a := ⟨b, o, none⟩) (h.block b hb (fun e => hne (by injection e)))

@[reducible] def fn60 (bl bw : Nat) : Value := .func (.func 91) #[] #[.pointer (some ⟨bl, 0, none⟩), .pointer (some ⟨bw, 0, none⟩)]
/-- the blocks that were there but one -/
@[reducible] def But (B bl : Nat) : Nat → Prop := fun b => b < B ∧ b ≠ bl
theorem ArgsAt.grew {w w' : World} {bl B : Nat} {A : Option Addr} {l : List Tm} (h : ArgsAt w (But B bl) A l) (hg : w.grownBy w' (some bl)) (hB : B ≤ w.heap.size) : ArgsAt w' (But B bl) A l :=
  h.keep (fun b hb => hg.block b (by have := hb.1; omega) (fun e => hb.2 (by injection e))) (fun _ h => h)
theorem ArgsAt.but {w : World} {bl B B' : Nat} {A : Option Addr} {l : List Tm} (h : ArgsAt w (But B bl) A l) (hB : B ≤ B') : ArgsAt w (But B' bl) A l :=
  h.keep (fun _ _ => rfl) (fun _ hb => ⟨Nat.lt_of_lt_of_le hb.1 hB, hb.2⟩)

set_option maxHeartbeats 1000000 in
theorem walk60_any (N : Nat) : ∀ (t : Tm), cnt t < N → ∀ (A : Option Addr) (c bl bw : Nat) (left : Int) (w : World), 1 ≤ left → left ≤ 4000 → bl ≠ bw → Blk w bl 3 #[.int .i64 left] → bw < w.heap.size → w.cell? ⟨bw, 0, none⟩ = some (fn60 bl bw) →
    ArgsAt w (But w.heap.size bl) A t.args →
    Calls Tryz.prog 91 #[t.v A c, .pointer (some ⟨bl, 0, none⟩), .pointer (some ⟨bw, 0, none⟩)] w fun e w' => e = .returned (.tuple #[]) ∧ w.grownBy w' (some bl) ∧ Blk w' bl 3 #[.int .i64 (max (left - (cnt t : Int)) 0)] := by
  induction N with
  | zero => intro t h; omega
  | succ N ih =>
    intro t hN A c bl bw left w h1 h2 hne hbl hbwz hbw ha
    have hlen := ha.len
    have HA := Lib.hid ha
    have hz1 : bl < w.heap.size := hbl.lt
    have b0 := (hbl.alloc (t.o A c)).cell 0
    have b1 := (hbl.alloc (t.o A c)).frozen 0
    simp at b0
    have HL := Lib.hid hbl
    have HF := Lib.hid hbw
    clear ha hbl hbw
    go_enter Tryz.func91, Tryz.ntmps91
    go_wp2
    go_loopw [4] (fun i wr => ∃ k : Nat, k ≤ t.args.length ∧ i = .int .i64 k ∧ w.grownBy wr (some bl) ∧ Blk wr w.heap.size 24 #[.int .i64 t.kind, .int .i64 t.n, .string t.name, .slice A t.args.length c] ∧ Blk wr bl 3 #[.int .i64 (max (left - 1 - (cntTo t.args k : Int)) 0)]) (fun i _ => t.args.length - (intOf i).toNat)
    case atStart =>
      refine ⟨0, by omega, rfl, gTrans (gSet _ _ _ _) (gAlloc _ _ _), ?_, ?_⟩
      · have := Blk.new (w.setCell ⟨bl, 0, none⟩ (.int .i64 (left - 1))) 24 #[.int .i64 t.kind, .int .i64 t.n, .string t.name, .slice A t.args.length c]
        rwa [World.size_setCell] at this
      · rw [cntTo_zero, show max (left - 1 - ((0 : Nat) : Int)) 0 = left - 1 by omega]
        exact (HL.out.set_ 0 _).alloc (t.o A c)
    case round =>
      obtain ⟨k, hk, rfl, hw, hbox, hm⟩ := hrel
      obtain ⟨m, hm'⟩ : ∃ m, max (left - 1 - (cntTo t.args k : Int)) 0 = m := ⟨_, rfl⟩
      rw [hm'] at hm
      have hm1 : 0 ≤ m ∧ m ≤ 4000 := by omega
      have m0 := hm.cell 0
      simp at m0
      have hz := hw.size
      have hzz := hbox.lt
      have p0 := hbox.cell 0
      have p1 := hbox.cell 1
      have p2 := hbox.cell 2
      have p3 := hbox.cell 3
      simp at p0 p1 p2 p3
      have pf : wr.cell? ⟨bw, 0, none⟩ = some (fn60 bl bw) := (World.cell?_of_block (w := w) (w' := wr) (a := ⟨bw, 0, none⟩) (hw.block bw hbwz (fun e => by injection e with e; omega))).trans HF.out
      have HM := Lib.hid hm'
      have HB := Lib.hid hm
      have HBX := Lib.hid hbox
      have HW := Lib.hid hw
      clear hm hm' hw hbox
      have hAr : ArgsAt wr (But w.heap.size bl) A t.args := HA.out.grew HW.out (Nat.le_refl _)
      by_cases hlt : k < t.args.length
      · by_cases hmm : 0 < m
        · obtain ⟨b, off, x, A', c', rfl, hB, hx, hx4, hA'⟩ := hAr.at hlt
          obtain ⟨q0, q1, q2, q3⟩ := hx4
          have HX := Lib.hid hx
          have HC := Lib.hid hA'
          obtain ⟨hB1, hB2⟩ := hB
          clear hx hA' hAr
          go_wp2_with fail
          refine wp_region_N (fun w' => w'.cell? ⟨bw, 0, none⟩ = some (fn60 bl bw) ∧ w'.cell? ⟨w.heap.size, 3, none⟩ = some (.slice (some ⟨b, off, none⟩) t.args.length c) ∧ w'.cell? ⟨b, off + k * 4, none⟩ = some (.int .i64 x.kind) ∧ w'.cell? ⟨b, off + k * 4 + 1, none⟩ = some (.int .i64 x.n) ∧ w'.cell? ⟨b, off + k * 4 + 2, none⟩ = some (.string x.name) ∧ w'.cell? ⟨b, off + k * 4 + 3, none⟩ = some (.slice A' x.args.length c')) (fun _ => true) (by kernel_rfl) ?_
          have hS0 : (fun w' => w'.cell? ⟨bw, 0, none⟩ = some (fn60 bl bw) ∧ w'.cell? ⟨w.heap.size, 3, none⟩ = some (.slice (some ⟨b, off, none⟩) t.args.length c) ∧ w'.cell? ⟨b, off + k * 4, none⟩ = some (.int .i64 x.kind) ∧ w'.cell? ⟨b, off + k * 4 + 1, none⟩ = some (.int .i64 x.n) ∧ w'.cell? ⟨b, off + k * 4 + 2, none⟩ = some (.string x.name) ∧ w'.cell? ⟨b, off + k * 4 + 3, none⟩ = some (.slice A' x.args.length c')) wr.drew := ⟨pf, p3, q0, q1, q2, q3⟩
          refine wpAnyN_take (i := 0) (v := ?v1) rfl (by kernel_rfl) (by kernel_rfl) (by kernel_rfl) (by kernel_rfl) (fun _ _ _ h => h) (Or.inl ⟨by rfl, ?hy1⟩) (by assumption) ?_
          case hy1 => intro w hSw; (try dsimp only at hSw); go_simp; try with_reducible rfl
          simp only [Act.put, List.getElem_toArray, List.getElem_cons_zero, List.setIfInBounds_toArray, List.set_cons_zero, List.set_cons_succ]
          refine wpAnyN_take (i := 1) (v := ?v2) rfl (by kernel_rfl) (by kernel_rfl) (by kernel_rfl) (by kernel_rfl) (fun _ _ _ h => h) (Or.inl ⟨by rfl, ?hy2⟩) (by assumption) ?_
          case hy2 => intro w hSw; (try dsimp only at hSw); go_simp; try with_reducible rfl
          simp only [Act.put, List.getElem_toArray, List.getElem_cons_zero, List.getElem_cons_succ, List.setIfInBounds_toArray, List.set_cons_zero, List.set_cons_succ]
          refine wpAnyN_take (i := 2) (v := ?v3) rfl (by kernel_rfl) (by kernel_rfl) (by kernel_rfl) (by kernel_rfl) (fun _ _ _ h => h) (Or.inl ⟨by rfl, ?hy3⟩) (by assumption) ?_
          case hy3 => intro w hSw; (try dsimp only at hSw); go_simp; try with_reducible rfl
          simp only [Act.put, List.getElem_toArray, List.getElem_cons_zero, List.getElem_cons_succ, List.setIfInBounds_toArray, List.set_cons_zero, List.set_cons_succ]
          refine wpAnyN_take (i := 3) (v := ?v4) rfl (by kernel_rfl) (by kernel_rfl) (by kernel_rfl) (by kernel_rfl) (fun _ _ _ h => h) (Or.inl ⟨by rfl, ?hy4⟩) (by assumption) ?_
          case hy4 => intro w hSw; (try dsimp only at hSw); go_simp; try with_reducible rfl
          simp only [Act.put, List.getElem_toArray, List.getElem_cons_zero, List.getElem_cons_succ, List.setIfInBounds_toArray, List.set_cons_zero, List.set_cons_succ]
          refine wpAnyN_take (i := 4) (v := ?v5) rfl (by kernel_rfl) (by kernel_rfl) (by kernel_rfl) (by kernel_rfl) (fun _ _ _ h => h) (Or.inl ⟨by rfl, ?hy5⟩) (by assumption) ?_
          case hy5 => intro w hSw; (try dsimp only at hSw); go_simp; try with_reducible rfl
          simp only [Act.put, List.getElem_toArray, List.getElem_cons_zero, List.getElem_cons_succ, List.setIfInBounds_toArray, List.set_cons_zero, List.set_cons_succ]
          refine wpAnyN_take (i := 5) (v := ?v6) rfl (by kernel_rfl) (by kernel_rfl) (by kernel_rfl) (by kernel_rfl) (fun _ _ _ h => h) (Or.inl ⟨by rfl, ?hy6⟩) (by assumption) ?_
          case hy6 => intro w hSw; (try dsimp only at hSw); go_simp; try with_reducible rfl
          simp only [Act.put, List.getElem_toArray, List.getElem_cons_zero, List.getElem_cons_succ, List.setIfInBounds_toArray, List.set_cons_zero, List.set_cons_succ]
          refine wpAnyN_one (i := 6) (by kernel_rfl) rfl (fun K hK => ?_)
          simp only [List.getElem_toArray, List.getElem_cons_zero, List.getElem_cons_succ]
          go_simp
          refine (ih x (by have := Tm.lt_of_at HX.out; omega) A' c' bl bw m wr.drew (by omega) (by omega) hne HB.out (by simp; omega) pf ((HC.out.but hz).keep (fun _ _ => rfl) (fun _ h => h))).mono ?_
          rintro e w2 ⟨rfl, hg2, hb2⟩
          have hgw : wr.grownBy w2 (some bl) := gTrans (gDrewN wr 1 _) hg2
          refine hK _ _ (fun _ => ⟨(gCell hgw (by omega) (by omega)).trans pf, (gCell hgw (by omega) (by omega)).trans p3, (gCell hgw (by omega) (by omega)).trans q0, (gCell hgw (by omega) (by omega)).trans q1, (gCell hgw (by omega) (by omega)).trans q2, (gCell hgw (by omega) (by omega)).trans q3⟩) ?_
          refine wpAnyN_done (by kernel_rfl) ?_ _
          have hn2 := cntTo_next HX.out
          have hm2 := HM.out
          rw [show max (m - (cnt x : Int)) 0 = max (left - 1 - (cntTo t.args (k + 1) : Int)) 0 by rw [hn2]; omega] at hb2
          have HG2 := Lib.hid (gTrans HW.out hgw)
          have HX2 := Lib.hid (HBX.out.grown hgw (fun e => by injection e with e; omega))
          have HB2 := Lib.hid hb2
          clear hb2 hg2 hgw hn2 hm2 hS0
          go_wp2_with fail
          exact ⟨⟨k + 1, by omega, by go_num, HG2.out, HX2.out, HB2.out⟩, by simp [intOf]; omega⟩
        · have hm0 : m = 0 := by omega
          clear hAr
          subst hm0
          go_wp2_with fail
          go_end0
          refine ⟨rfl, HW.out, ?_⟩
          have h3 := HM.out
          have h4 := cntTo_le t.args k
          rw [show max (left - (cnt t : Int)) 0 = 0 by rw [cnt_eq]; omega]
          exact HB.out
      · clear hAr
        go_wp2_with fail
        go_end0
        refine ⟨rfl, HW.out, ?_⟩
        have h3 := HM.out
        rw [cntTo_all (by omega)] at h3
        rw [show max (left - (cnt t : Int)) 0 = m by rw [cnt_eq]; omega]
        exact HB.out
end Go.Proofs.YtcagaaacfcpoeaaGreat
