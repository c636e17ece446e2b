/-
  Walk: the change of Open.
-/
import Derived.Test.YtklpghpfdeojeaaUf
import Derived.Test.YtklpghpfdeojeaaSo
import Derived.Deep.Cut
import Derived.RegionTactic
namespace Go.Proofs.Ytklpghpfdeojeaa
open Go.RowKit

/-- the files behind Open -/
def openF (l : List F) (name : ByteArray) (mode : Int) : List F :=
  if idxI l (fileP name) < 0 then insF l ⟨name, ⟨#[]⟩⟩
  else if mode == 2 then (match l[(idxI l (fileP name)).toNat]? with | some f => l.set (idxI l (fileP name)).toNat { f with text := ⟨#[]⟩ } | none => l)
  else l
theorem openF_new {l : List F} {name : ByteArray} {mode : Int} (h : idxI l (fileP name) < 0) : openF l name mode = insF l ⟨name, ⟨#[]⟩⟩ := by unfold openF; rw [if_pos h]
theorem openF_write {l : List F} {name : ByteArray} {mode : Int} {k : Nat} {f : F} (h : idxI l (fileP name) = k) (hf : l[k]? = some f) (hm : (mode == 2) = true) : openF l name mode = l.set k { f with text := ⟨#[]⟩ } := by
  have : (idxI l (fileP name)).toNat = k := by omega
  unfold openF; rw [if_neg (by omega), hm, if_pos rfl, this, hf]
theorem openF_keep {l : List F} {name : ByteArray} {mode : Int} (h : ¬ idxI l (fileP name) < 0) (hm : (mode == 2) = false) : openF l name mode = l := by unfold openF; rw [if_neg h, hm]; rfl
theorem Nw.files0 {w : World} {B nb : Nat} {s : Sm} (h : Nw w B nb s) (hf : s.files.length ≤ 4398046511104) : ∃ A c, w.cell? ⟨nb, 0, none⟩ = some (.slice A s.files.length c) ∧ w.frozen? ⟨nb, 0, none⟩ = false ∧ nb < w.heap.size ∧ CapOk A s.files.length c ∧ FilesAt w w.heap.size A s.files.length s.files := by
  obtain ⟨h1, h2, v0, v1, h3, h4, h5⟩ := h
  obtain ⟨A, c, rfl, hc, -, hfl⟩ := own_files h4 hf
  have c0 := h3.cell 0
  simp at c0
  exact ⟨A, c, c0, h3.frozen 0, h3.lt, hc, hfl⟩
theorem Nw.next {w w' : World} {B nb : Nat} {s : Sm} (h : Nw w B nb s) (hb : Below w.heap.size w w') : Nw w' B nb s := by
  obtain ⟨h1, h2, v0, v1, h3, h4, h5⟩ := h
  exact ⟨h1, Nat.le_trans h2 hb.size, v0, v1, h3.next hb, own_below h4 hb, own_below h5 hb⟩
theorem Nw.setFiles {w : World} {B nb m base : Nat} {s : Sm} {v : Value} {l : List F} (h : Nw w B nb s) (hv : w.ownsRow base 35 2 v m (fCs l)) (hm : l.length = m) (hb : B ≤ base) : Nw (w.setCell ⟨nb, 0, none⟩ v) B nb { s with files := l } := by
  obtain ⟨h1, h2, v0, v1, h3, h4, h5⟩ := h
  refine ⟨h1, by simpa [World.setCell] using h2, v, v1, ?_, ?_, own_stay h5 fun g hg => heap_setCell_other _ _ _ _ (by have := (h5.lt g hg).1; simp; omega)⟩
  · have := h3.set_ 0 v
    simpa using this
  · rw [hm]
    have hv2 := own_base hv hb
    exact own_stay hv2 fun g hg => heap_setCell_other _ _ _ _ (by have := (hv2.lt g hg).1; simp; omega)
theorem Nw.setOpn {w w2 : World} {B nb m : Nat} {s : Sm} {v0 v1 v2 : Value} {l : List G} (h1 : nb < B) (h2 : B ≤ w2.heap.size) (h3 : Blk w2 nb 25 #[v0, v1, .int .i64 s.inp, .int .i64 s.out, .int .i64 s.nxt]) (h4 : w2.ownsRow B 35 2 v0 s.files.length (fCs s.files)) (hv : w2.ownsRow B 52 7 v2 m (gCs l)) (hm : l.length = m) (hb : Below nb w w2) :
    Nw (w2.setCell ⟨nb, 1, none⟩ v2) B nb { s with opn := l } ∧ Below nb w (w2.setCell ⟨nb, 1, none⟩ v2) := by
  refine ⟨⟨h1, by simpa [World.setCell] using h2, v0, v2, ?_, own_stay h4 fun g hg => heap_setCell_other _ _ _ _ (by have := (h4.lt g hg).1; simp; omega), ?_⟩, hb.setCell (by simp) _⟩
  · have := h3.set_ 1 v2
    simpa using this
  · rw [hm]
    exact own_stay hv fun g hg => heap_setCell_other _ _ _ _ (by have := (hv.lt g hg).1; simp; omega)
theorem Nw.nextC {w : World} {B nb : Nat} {s : Sm} (h : Nw w B nb s) : w.cell? ⟨nb, 4, none⟩ = some (.int .i64 s.nxt) ∧ w.frozen? ⟨nb, 4, none⟩ = false ∧ nb < w.heap.size := by
  obtain ⟨h1, h2, v0, v1, h3, h4, h5⟩ := h
  have c4 := h3.cell 4
  simp at c4
  exact ⟨c4, h3.frozen 4, h3.lt⟩
theorem Nw.setNxt {w : World} {B nb : Nat} {s : Sm} (h : Nw w B nb s) (v : Int) : Nw (w.setCell ⟨nb, 4, none⟩ (.int .i64 v)) B nb { s with nxt := v } := by
  obtain ⟨h1, h2, v0, v1, h3, h4, h5⟩ := h
  refine ⟨h1, by simpa [World.setCell] using h2, v0, v1, ?_, own_stay h4 fun g hg => heap_setCell_other _ _ _ _ (by have := (h4.lt g hg).1; simp; omega), own_stay h5 fun g hg => heap_setCell_other _ _ _ _ (by have := (h5.lt g hg).1; simp; omega)⟩
  have := h3.set_ 4 (.int .i64 v)
  simpa using this
def OpenIn (w : World) (p1 p2 p3 p4 : Nat) (k : Int) (name : ByteArray) (mode : Int) (x : G) : Prop :=
  w.cell? ⟨p1, 0, none⟩ = some (.int .i64 k) ∧ w.cell? ⟨p2, 0, none⟩ = some (.string name) ∧ w.cell? ⟨p3, 0, none⟩ = some (.int .i64 mode) ∧ GCells w p4 0 x
theorem OpenIn.below {w w' : World} {p1 p2 p3 p4 nb : Nat} {k : Int} {name : ByteArray} {mode : Int} {x : G} (h : OpenIn w p1 p2 p3 p4 k name mode x) (hb : Below nb w w') (h1 : p1 < nb) (h2 : p2 < nb) (h3 : p3 < nb) (h4 : p4 < nb) : OpenIn w' p1 p2 p3 p4 k name mode x :=
  ⟨(hb.cell (p := ⟨p1, 0, none⟩) h1).trans h.1, (hb.cell (p := ⟨p2, 0, none⟩) h2).trans h.2.1, (hb.cell (p := ⟨p3, 0, none⟩) h3).trans h.2.2.1, h.2.2.2.below h4 hb⟩

set_option maxHeartbeats 4000000 in
/-- the second half: the stream is appended, and the number counted -/
theorem open2_any (nb B p1 p2 p3 p4 : Nat) (name : ByteArray) (mode : Int) (x : G) (s : Sm) (w : World) (hn : Nw w B nb s) (_hp1 : p1 < nb) (hp2 : p2 < nb) (_hp3 : p3 < nb) (hp4 : p4 < nb) (hin : OpenIn w p1 p2 p3 p4 (idxI s.files (fileP name)) name mode x)
    (hfl : s.files.length ≤ 1000000) (hol : 0 < s.opn.length ∧ s.opn.length ≤ 1000000) (hnx : 0 ≤ s.nxt ∧ s.nxt ≤ 1073741824) :
    Calls Try.prog 45 #[.pointer (some ⟨nb, 0, none⟩), .pointer (some ⟨p1, 0, none⟩), .pointer (some ⟨p2, 0, none⟩), .pointer (some ⟨p3, 0, none⟩), .pointer (some ⟨p4, 0, none⟩)] w fun e w' => e = .returned (.tuple #[]) ∧ Nw w' B nb { s with files := openF s.files name mode, opn := s.opn ++ [x], nxt := s.nxt + 1 } ∧ Below nb w w' := by
  obtain ⟨i1, hi1, hz1, hy1, hb1⟩ := info_parts info52
  obtain ⟨A, c, c0, cf, zb, hcap, hf0⟩ := hn.files0 (by omega)
  have HFL := Lib.hid hf0
  have HN := Lib.hid hn
  have HIN := Lib.hid hin
  obtain ⟨k1, k2, k3, k4⟩ := hin
  have HK4 := Lib.hid k4
  have HK2 := Lib.hid k2
  obtain ⟨F', hF'⟩ : ∃ F', openF s.files name mode = F' := ⟨_, rfl⟩
  have hjc : (idxI s.files (fileP name) = -1 ∧ F' = insF s.files ⟨name, ⟨#[]⟩⟩) ∨ ∃ (k : Nat) (f : F), idxI s.files (fileP name) = k ∧ k < s.files.length ∧ s.files[k]? = some f ∧ ((mode == 2) = false → F' = s.files) ∧ ((mode == 2) = true → F' = s.files.set k { f with text := ⟨#[]⟩ }) := by
    rcases idxI_cases s.files (fileP name) with ⟨hk, -⟩ | ⟨k, f, hk, hkl, hf, -⟩
    · exact .inl ⟨hk, hF'.symm.trans (openF_new (by omega))⟩
    · exact .inr ⟨k, f, hk, hkl, hf, fun hm => hF'.symm.trans (openF_keep (by omega) hm), fun hm => hF'.symm.trans (openF_write hk hf hm)⟩
  have HF' := Lib.hid hF'
  obtain ⟨j, hj⟩ : ∃ j, idxI s.files (fileP name) = j := ⟨_, rfl⟩
  rw [hj] at hjc k1
  have HJC := Lib.hid hjc
  clear hn hf0 k4 HIN hj hF' hjc
  go_enter Try.func45, Try.ntmps45
  go_upto_if 7 with fail
  go_cut [] from 8 to 26 (fun wx => Hid (Nw wx B nb { s with files := F' }) ∧ Hid (Below nb w wx))
  case first =>
    rcases HJC.out with ⟨rfl, hq⟩ | ⟨k, f, rfl, hkl, hf, hq0, hq1⟩
    · have HQ := Lib.hid hq
      clear hq
      go_wp2_with fail
      refine wp_region_N (fun w' => w'.cell? ⟨nb, 0, none⟩ = some (.slice A s.files.length c) ∧ w'.cell? ⟨p2, 0, none⟩ = some (.string name)) (fun j => decide (j < 8)) (by kernel_rfl) ?_
      have hS0 : (fun w' => w'.cell? ⟨nb, 0, none⟩ = some (.slice A s.files.length c) ∧ w'.cell? ⟨p2, 0, none⟩ = some (.string name)) w.drew := ⟨c0, HK2.out⟩
      refine wpAnyN_take (i := 0) (v := ?v1) rfl (by kernel_rfl) (by kernel_rfl) (by kernel_rfl) (by kernel_rfl) (fun _ _ _ h => h) (Or.inl ⟨by rfl, ?hy1⟩) (by assumption) ?_
      case hy1 => intro w hSw; (try dsimp only at hSw); go_simp; try with_reducible rfl
      simp only [Act.put, List.getElem_toArray, List.getElem_cons_zero, List.setIfInBounds_toArray, List.set_cons_zero, List.set_cons_succ]
      refine wpAnyN_take (i := 1) (v := ?v2) rfl (by kernel_rfl) (by kernel_rfl) (by kernel_rfl) (by kernel_rfl) (fun _ _ _ h => h) (Or.inl ⟨by rfl, ?hy2⟩) (by assumption) ?_
      case hy2 => intro w hSw; (try dsimp only at hSw); go_simp; try with_reducible rfl
      simp only [Act.put, List.getElem_toArray, List.getElem_cons_zero, List.getElem_cons_succ, List.setIfInBounds_toArray, List.set_cons_zero, List.set_cons_succ]
      refine wpAnyN_take (i := 2) (v := ?v3) rfl (by kernel_rfl) (by kernel_rfl) (by kernel_rfl) (by kernel_rfl) (fun _ _ _ h => h) (Or.inl ⟨by rfl, ?hy3⟩) (by assumption) ?_
      case hy3 => intro w hSw; (try dsimp only at hSw); go_simp; try with_reducible rfl
      simp only [Act.put, List.getElem_toArray, List.getElem_cons_zero, List.getElem_cons_succ, List.setIfInBounds_toArray, List.set_cons_zero, List.set_cons_succ]
      refine wpAnyN_take (i := 3) (v := ?v4) rfl (by kernel_rfl) (by kernel_rfl) (by kernel_rfl) (by kernel_rfl) (fun _ _ _ h => h) (Or.inl ⟨by rfl, ?hy4⟩) (by assumption) ?_
      case hy4 => intro w hSw; (try dsimp only at hSw); go_simp; try with_reducible rfl
      simp only [Act.put, List.getElem_toArray, List.getElem_cons_zero, List.getElem_cons_succ, List.setIfInBounds_toArray, List.set_cons_zero, List.set_cons_succ]
      refine wpAnyN_take (i := 4) (v := ?v5) rfl (by kernel_rfl) (by kernel_rfl) (by kernel_rfl) (by kernel_rfl) (fun _ _ _ h => h) (Or.inl ⟨by rfl, ?hy5⟩) (by assumption) ?_
      case hy5 => intro w hSw; (try dsimp only at hSw); go_simp; try with_reducible rfl
      simp only [Act.put, List.getElem_toArray, List.getElem_cons_zero, List.getElem_cons_succ, List.setIfInBounds_toArray, List.set_cons_zero, List.set_cons_succ]
      refine wpAnyN_take (i := 5) (v := ?v6) rfl (by kernel_rfl) (by kernel_rfl) (by kernel_rfl) (by kernel_rfl) (fun _ _ _ h => h) (Or.inl ⟨by rfl, ?hy6⟩) (by assumption) ?_
      case hy6 => intro w hSw; (try dsimp only at hSw); go_simp; try with_reducible rfl
      simp only [Act.put, List.getElem_toArray, List.getElem_cons_zero, List.getElem_cons_succ, List.setIfInBounds_toArray, List.set_cons_zero, List.set_cons_succ]
      refine wpAnyN_take (i := 6) (v := ?v7) rfl (by kernel_rfl) (by kernel_rfl) (by kernel_rfl) (by kernel_rfl) (fun _ _ _ h => h) (Or.inl ⟨by rfl, ?hy7⟩) (by assumption) ?_
      case hy7 => intro w hSw; (try dsimp only at hSw); go_simp; try with_reducible rfl
      simp only [Act.put, List.getElem_toArray, List.getElem_cons_zero, List.getElem_cons_succ, List.setIfInBounds_toArray, List.set_cons_zero, List.set_cons_succ]
      refine wpAnyN_one (i := 7) (by kernel_rfl) rfl (fun K hK => ?_)
      simp only [List.getElem_toArray, List.getElem_cons_zero, List.getElem_cons_succ]
      go_simp
      refine (insert_any A s.files.length c s.files ⟨name, ⟨#[]⟩⟩ w.drew (HFL.out) hcap (by omega)).mono ?_
      rintro e w1 ⟨⟨v1, rfl, ho1⟩, hb1⟩
      have hb1 : Below w.heap.size w w1 := (bDrew w).trans hb1
      obtain ⟨D, e, rfl, -⟩ := own_form ho1
      have hn1 := HN.out.next hb1
      have hB1 : B ≤ w.heap.size := HN.out.2.1
      have HNF := Lib.hid (Nw.setFiles hn1 ho1 (insF_len _ _) hB1)
      have HBF := Lib.hid (show Below nb w (w1.setCell ⟨nb, 0, none⟩ (.slice D (s.files.length + 1) e)) from (hb1.mono (Nat.le_of_lt zb)).setCell (by simp) _)
      have z0 := (hb1.cell (p := ⟨nb, 0, none⟩) zb).trans c0
      have zf := (hb1.frozen (p := ⟨nb, 0, none⟩) zb).trans cf
      have zs := Nat.lt_of_lt_of_le zb hb1.size
      refine hK _ _ (fun _ => ⟨z0, (hb1.cell (p := ⟨p2, 0, none⟩) (Nat.lt_of_lt_of_le hp2 (Nat.le_of_lt zb))).trans HK2.out⟩) ?_
      refine wpAnyN_one (i := 8) (by kernel_rfl) rfl (fun K hK => ?_)
      simp only [List.getElem_toArray, List.getElem_cons_zero, List.getElem_cons_succ]
      go_simp
      refine hK _ _ (fun h => absurd h (by decide)) ?_
      refine wpAnyN_one (i := 9) (by kernel_rfl) rfl (fun K hK => ?_)
      simp only [List.getElem_toArray, List.getElem_cons_zero, List.getElem_cons_succ]
      go_simp
      refine hK _ _ (fun h => absurd h (by decide)) ?_
      refine wpAnyN_one (i := 10) (by kernel_rfl) rfl (fun K hK => ?_)
      simp only [List.getElem_toArray, List.getElem_cons_zero, List.getElem_cons_succ]
      go_simp
      refine hK _ _ (fun h => absurd h (by decide)) ?_
      refine wpAnyN_done (by kernel_rfl) ?_ _
      go_wp2_with fail
      go_meet
      rw [HQ.out]
      exact ⟨HNF.out, HBF.out⟩
    · have hd : decide ((k : Int) < 0) = false := by simp
      have HQ0 := Lib.hid hq0
      have HQ1 := Lib.hid hq1
      clear hq0 hq1 HJC
      cases hm : mode == 2
      · have HQ := Lib.hid (HQ0.out hm)
        go_wp2_with fail
        go_meet
        rw [HQ.out]
        exact ⟨HN.out, Below.refl _ _⟩
      · have HQ := Lib.hid (HQ1.out hm)
        obtain ⟨v1, g, cap, a1, a2, a3, a4, hkb, hff, hoo, hfr, hgc, hne⟩ := HN.out.filesG (by omega)
        obtain ⟨q0, q1⟩ := hgc k f hf
        have n1 := hkb.cell 0
        simp at n1
        have f1 := hfr (k * 2 + 1)
        have hkli : (k : Int) < (s.files.length : Int) := by omega
        have HST := Lib.hid (Nw.storeF a1 a4 a2 hkb hff hoo hne (k * 2 + 1) (.string ⟨#[]⟩) (s.files.set k { f with text := ⟨#[]⟩ }) (fCs_set hf _) (by simp))
        have c0' := c0
        rw [n1] at c0'
        injection c0' with c0'
        injection c0' with c0a c0b c0c
        subst c0a c0c
        clear hgc hkb hff hoo hfr hf c0 cf
        go_wp2_with fail
        go_region
        go_wp2_with fail
        go_meet
        rw [HQ.out]
        exact ⟨HST.out, (bDrewN (Below.refl nb w) 1).setCell (p := ⟨g, k * 2 + 1, none⟩) (by simp; omega) _⟩
  case rest =>
    obtain ⟨HNC, HBC⟩ := hcut
    clear HN HFL hcap c0 cf
    obtain ⟨v0, g, cap, a1, a2, a3, a4, hk, hf, ho, -, -, hne⟩ := HNC.out.opens (by show 0 < s.opn.length; omega)
    simp only [] at hk hf ho
    have n1 := hk.cell 1
    simp at n1
    have hin4g := HK4.out
    have hin4 := (HK4.out).below hp4 HBC.out
    obtain ⟨q0, q1, q2, q3, q4, q5, q6⟩ := hin4
    have hb0 := bDrewN HBC.out 1
    have zbc : nb < wc.heap.size := hk.lt
    have zp4 : p4 < wc.heap.size := by omega
    have HKk := Lib.hid hk
    have HF := Lib.hid hf
    have HO := Lib.hid ho
    have HE := Lib.hid hne
    clear hk hf ho hne k1 k2 k3
    go_wp2_with fail
    refine wp_region_N (fun w' => w'.cell? ⟨nb, 1, none⟩ = some (.slice (some ⟨g, 0, none⟩) s.opn.length cap) ∧ GCells w' p4 0 x) (fun j => decide (j < 8)) (by kernel_rfl) ?_
    have hS0 : (fun w' => w'.cell? ⟨nb, 1, none⟩ = some (.slice (some ⟨g, 0, none⟩) s.opn.length cap) ∧ GCells w' p4 0 x) wc.drew := ⟨n1, hin4g.below hp4 hb0⟩
    refine wpAnyN_take (i := 0) (v := ?v8) rfl (by kernel_rfl) (by kernel_rfl) (by kernel_rfl) (by kernel_rfl) (fun _ _ _ h => h) (Or.inl ⟨by rfl, ?hy8⟩) (by assumption) ?_
    case hy8 => intro w hSw; obtain ⟨hSa, q0, q1, q2, q3, q4, q5, q6⟩ := hSw; simp only [Nat.zero_add] at q1 q2 q3 q4 q5 q6; go_simp; try with_reducible rfl
    simp only [Act.put, List.getElem_toArray, List.getElem_cons_zero, List.setIfInBounds_toArray, List.set_cons_zero, List.set_cons_succ]
    refine wpAnyN_take (i := 1) (v := ?v9) rfl (by kernel_rfl) (by kernel_rfl) (by kernel_rfl) (by kernel_rfl) (fun _ _ _ h => h) (Or.inl ⟨by rfl, ?hy9⟩) (by assumption) ?_
    case hy9 => intro w hSw; obtain ⟨hSa, q0, q1, q2, q3, q4, q5, q6⟩ := hSw; simp only [Nat.zero_add] at q1 q2 q3 q4 q5 q6; go_simp; try with_reducible rfl
    simp only [Act.put, List.getElem_toArray, List.getElem_cons_zero, List.getElem_cons_succ, List.setIfInBounds_toArray, List.set_cons_zero, List.set_cons_succ]
    refine wpAnyN_take (i := 2) (v := ?v10) rfl (by kernel_rfl) (by kernel_rfl) (by kernel_rfl) (by kernel_rfl) (fun _ _ _ h => h) (Or.inl ⟨by rfl, ?hy10⟩) (by assumption) ?_
    case hy10 => intro w hSw; obtain ⟨hSa, q0, q1, q2, q3, q4, q5, q6⟩ := hSw; simp only [Nat.zero_add] at q1 q2 q3 q4 q5 q6; go_simp; try with_reducible rfl
    simp only [Act.put, List.getElem_toArray, List.getElem_cons_zero, List.getElem_cons_succ, List.setIfInBounds_toArray, List.set_cons_zero, List.set_cons_succ]
    refine wpAnyN_take (i := 3) (v := ?v11) rfl (by kernel_rfl) (by kernel_rfl) (by kernel_rfl) (by kernel_rfl) (fun _ _ _ h => h) (Or.inl ⟨by rfl, ?hy11⟩) (by assumption) ?_
    case hy11 => intro w hSw; obtain ⟨hSa, q0, q1, q2, q3, q4, q5, q6⟩ := hSw; simp only [Nat.zero_add] at q1 q2 q3 q4 q5 q6; go_simp; try with_reducible rfl
    simp only [Act.put, List.getElem_toArray, List.getElem_cons_zero, List.getElem_cons_succ, List.setIfInBounds_toArray, List.set_cons_zero, List.set_cons_succ]
    refine wpAnyN_take (i := 4) (v := ?v12) rfl (by kernel_rfl) (by kernel_rfl) (by kernel_rfl) (by kernel_rfl) (fun _ _ _ h => h) (Or.inl ⟨by rfl, ?hy12⟩) (by assumption) ?_
    case hy12 => intro w hSw; obtain ⟨hSa, q0, q1, q2, q3, q4, q5, q6⟩ := hSw; simp only [Nat.zero_add] at q1 q2 q3 q4 q5 q6; go_simp; try with_reducible rfl
    simp only [Act.put, List.getElem_toArray, List.getElem_cons_zero, List.getElem_cons_succ, List.setIfInBounds_toArray, List.set_cons_zero, List.set_cons_succ]
    refine wpAnyN_take (i := 5) (v := ?v13) rfl (by kernel_rfl) (by kernel_rfl) (by kernel_rfl) (by kernel_rfl) (fun _ _ _ h => h) (Or.inl ⟨by rfl, ?hy13⟩) (by assumption) ?_
    case hy13 => intro w hSw; obtain ⟨hSa, q0, q1, q2, q3, q4, q5, q6⟩ := hSw; simp only [Nat.zero_add] at q1 q2 q3 q4 q5 q6; go_simp; try with_reducible rfl
    simp only [Act.put, List.getElem_toArray, List.getElem_cons_zero, List.getElem_cons_succ, List.setIfInBounds_toArray, List.set_cons_zero, List.set_cons_succ]
    refine wpAnyN_one (i := 6) (by kernel_rfl) rfl (fun K hK => ?_)
    simp only [List.getElem_toArray, List.getElem_cons_zero, List.getElem_cons_succ]
    go_simp
    refine hK _ _ (fun _ => ⟨(World.cell?_alloc_lt _ _ _ (by simp; omega)).trans n1, hin4g.below hp4 (hb0.alloc (by simp; omega) _)⟩) ?_
    refine wpAnyN_one (i := 7) (by kernel_rfl) rfl (fun K hK => ?_)
    simp only [List.getElem_toArray, List.getElem_cons_zero, List.getElem_cons_succ]
    rw [if_pos (by rfl)]
    have hblk := Blk.new wc.drew 52 #[.int .i64 x.id, .string x.file, .int .i64 x.mode, .int .i64 x.pos, .string x.alias_, .int .i64 x.eof, .bool x.past]
    refine wp_append_own _ (.tmp 31) (.tmp 33) 23 rfl B 52 i1 _ 7 72 Try.underlying23 hi1 hz1 hy1 hb1 rfl (by decide) (.slice (some ⟨g, 0, none⟩) s.opn.length cap) s.opn.length (gCs s.opn) rfl (HO.out.drew.alloc _) ⟨wc.heap.size, 0, none⟩ 1 1 (gCs [x]) rfl ?c1 ?c2 (g_one _) ?c4 ?c5 ?c6 ?_
    case c1 => rfl
    case c2 =>
      intro j u hj
      have h := hblk.cell j
      rw [add_plain, Nat.zero_add]
      exact h.trans (by simpa [gCs] using hj)
    case c4 => unfold maxLen; omega
    case c5 => omega
    case c6 => simp; omega
    intro v2 w2 ho2 hg2 _
    rw [← gCs_app] at ho2
    obtain ⟨D, e, rfl, -⟩ := own_form ho2
    have hgn : Value.ownBlock (.slice (some ⟨g, 0, none⟩) s.opn.length cap) ≠ some nb := fun h => by simp [Value.ownBlock] at h; omega
    have k2 : Blk w2 nb 25 _ := Blk.grown (w := wc.drew.alloc (.cells #[.int .i64 x.id, .string x.file, .int .i64 x.mode, .int .i64 x.pos, .string x.alias_, .int .i64 x.eof, .bool x.past] 52)) (Blk.alloc (w := wc.drew) HKk.out _) hg2 hgn
    have hz2 := hg2.size
    simp at hz2
    have hb2 : Below nb w w2 := (hb0.alloc (by simp; omega) _).grown hg2 (by simp; omega) (fun k hk => by simp [Value.ownBlock] at hk; omega)
    have hfo := (HF.out.alloc (.cells #[.int .i64 x.id, .string x.file, .int .i64 x.mode, .int .i64 x.pos, .string x.alias_, .int .i64 x.eof, .bool x.past] 52)).drew
    have hf2 : w2.ownsRow B 35 2 v0 F'.length (fCs F') := own_stay hfo fun g' hg' => hg2.block g' (hfo.lt g' hg').2 (fun e => by simp [Value.ownBlock] at e; subst e; exact HE.out hg')
    have HEND := Lib.hid (Nw.setOpn (s := { s with files := F' }) (l := s.opn ++ [x]) a1 (by omega) k2 hf2 ho2 (by simp) hb2)
    have y1 := k2.cell 1
    have y1f := k2.frozen 1
    have yz := k2.lt
    simp at y1
    refine hK _ _ (fun _ => ⟨y1, hin4g.below hp4 hb2⟩) ?_
    (try simp only [Act.put, List.setIfInBounds_toArray, List.set_cons_zero, List.set_cons_succ])
    refine wpAnyN_one (i := 8) (by kernel_rfl) rfl (fun K hK => ?_)
    simp only [List.getElem_toArray, List.getElem_cons_zero, List.getElem_cons_succ]
    go_simp
    refine hK _ _ (fun h => absurd h (by decide)) ?_
    refine wpAnyN_one (i := 9) (by kernel_rfl) rfl (fun K hK => ?_)
    simp only [List.getElem_toArray, List.getElem_cons_zero, List.getElem_cons_succ]
    go_simp
    refine hK _ _ (fun h => absurd h (by decide)) ?_
    refine wpAnyN_one (i := 10) (by kernel_rfl) rfl (fun K hK => ?_)
    simp only [List.getElem_toArray, List.getElem_cons_zero, List.getElem_cons_succ]
    go_simp
    refine hK _ _ (fun h => absurd h (by decide)) ?_
    refine wpAnyN_done (by kernel_rfl) ?_ _
    clear hS0 hz2 hb2 hfo hf2 hgn ho2 hg2 k2 hblk y1 y1f yz n1 hb0 q0 q1 q2 q3 q4 q5 q6
    obtain ⟨w3, HW3⟩ : ∃ w3, Hid (w3 = w2.setCell ⟨nb, 1, none⟩ (.slice D (s.opn.length + 1) e)) := ⟨_, rfl⟩
    rw [← HW3.out]
    rw [← HW3.out] at HEND
    obtain ⟨c4, f4, hz3⟩ := Nw.nextC HEND.out.1
    simp only [] at c4
    clear HW3
    go_wp2_with fail
    go_end0
    refine ⟨rfl, ?_, ?_⟩
    · have h := HEND.out.1.setNxt (s.nxt + 1)
      rw [← HF'.out] at h
      exact h
    · exact HEND.out.2.setCell (Nat.le_refl _) _
end Go.Proofs.Ytklpghpfdeojeaa
