/-
  Walk: a pair of terms is unified.
-/
import Derived.Test.YtpkpdjekoghkcaaUe
namespace Go.Proofs.Ytpkpdjekoghkcaa
open Go.RowKit

/-- the state while the arguments are unified: the boxes are read alone -/
structure PL (w0 : World) (qu r1 r2 : Nat) (A : Option Addr) (c : Nat) (bs : List Bi) (n : Nat) (ta : Tm) (Aa : Option Addr) (ca : Nat) (tb : Tm) (Ab : Option Addr) (cb : Nat) (wr : World) : Prop where
  kept : KeptQ qu w0 wr
  u : Blk wr qu 85 #[.slice A bs.length c, .int .i64 (n : Int)]
  b1 : Blk wr r1 47 #[.int .i64 ta.kind, .int .i64 ta.n, .string ta.name, .slice Aa ta.args.length ca]
  b2 : Blk wr r2 47 #[.int .i64 tb.kind, .int .i64 tb.n, .string tb.name, .slice Ab tb.args.length cb]
  bi : BsAt wr (Nq wr qu) A bs
  a1 : ArgsAt wr (Nq wr qu) Aa ta.args
  a2 : ArgsAt wr (Nq wr qu) Ab tb.args
  g : GoodB bs
  len : bs.length ≤ n
  o1 : TmOk ta
  o2 : TmOk tb
  n1 : qu ≠ r1
  n2 : qu ≠ r2
section
variable {w0 wr w' : World} {qu r1 r2 c n ca cb : Nat} {A Aa Ab : Option Addr} {bs : List Bi} {ta tb : Tm}
theorem PS.pl (h : PS w0 qu r1 r2 A c bs n ta Aa ca tb Ab cb wr) : PL w0 qu r1 r2 A c bs n ta Aa ca tb Ab cb wr :=
  { kept := h.kept, u := h.u, b1 := h.b1, b2 := h.b2, bi := h.bi.keep (fun _ _ => rfl) (fun _ h => ⟨h.1, h.2.1⟩), a1 := h.a1.keep (fun _ _ => rfl) (fun _ h => ⟨h.1, h.2.1⟩), a2 := h.a2.keep (fun _ _ => rfl) (fun _ h => ⟨h.1, h.2.1⟩), g := h.g, len := h.len, o1 := h.o1, o2 := h.o2, n1 := h.n1, n2 := h.n2 }
theorem PL.next (h : PL w0 qu r1 r2 A c bs n ta Aa ca tb Ab cb wr) (hb : Below wr.heap.size wr w') : PL w0 qu r1 r2 A c bs n ta Aa ca tb Ab cb w' := by
  have hk : ∀ b, Nq wr qu b → w'.heap[b]? = wr.heap[b]? := fun b h => hb.block b h.1
  have hG : ∀ b, Nq wr qu b → Nq w' qu b := fun b h => ⟨Nat.lt_of_lt_of_le h.1 hb.size, h.2⟩
  exact { h with kept := h.kept.trans (KeptQ.of hb), u := h.u.below hb h.u.lt, b1 := h.b1.below hb h.b1.lt, b2 := h.b2.below hb h.b2.lt, bi := h.bi.keep hk hG, a1 := h.a1.keep hk hG, a2 := h.a2.keep hk hG }
theorem PL.call (h : PL w0 qu r1 r2 A c bs n ta Aa ca tb Ab cb wr) {A' : Option Addr} {c' : Nat} {bs' : List Bi} {n' : Nat} (hu : Blk w' qu 85 #[.slice A' bs'.length c', .int .i64 (n' : Int)]) (hbi : BsAt w' (Nq w' qu) A' bs') (hg : GoodB bs') (hl : bs'.length ≤ n') (hk : KeptQ qu wr w') : PL w0 qu r1 r2 A' c' bs' n' ta Aa ca tb Ab cb w' := by
  have hkk : ∀ b, Nq wr qu b → w'.heap[b]? = wr.heap[b]? := fun b h => hk.block b h.1 h.2
  have hG : ∀ b, Nq wr qu b → Nq w' qu b := fun b h => ⟨Nat.lt_of_lt_of_le h.1 hk.size, h.2⟩
  exact { h with kept := h.kept.trans hk, u := hu, b1 := (hk.block _ h.b1.lt (Ne.symm h.n1)).trans h.b1, b2 := (hk.block _ h.b2.lt (Ne.symm h.n2)).trans h.b2, bi := hbi, a1 := h.a1.keep hkk hG, a2 := h.a2.keep hkk hG, g := hg, len := hl }
theorem PL.ret {m : Nat} {a b : Tm} (h : PL w0 qu r1 r2 A c bs n ta Aa ca tb Ab cb wr) (er : Int) (hm : m ≤ n) (hn : n ≤ 1048576) (hs : er = 0 → a.kind ≠ 0 → b.kind ≠ 0 → SameF a b) : PrR qu m a b w0 (.returned (.int .i64 er)) wr :=
  ⟨er, A, c, bs, n, rfl, h.u, h.bi, h.g, h.len, hm, hn, h.kept, hs⟩
end
set_option maxRecDepth 100000 in
set_option maxHeartbeats 8000000 in
theorem pair_any (N : Nat) : ∀ (n : Nat) (a b : Tm) (bs : List Bi), 1048576 - n < N → ∀ (Aa : Option Addr) (ca : Nat) (Ab : Option Addr) (cb : Nat) (A : Option Addr) (c : Nat) (w : World) (qu : Nat), n ≤ 1048576 → bs.length ≤ n → GoodB bs → TmOk a → TmOk b →
    Blk w qu 85 #[.slice A bs.length c, .int .i64 (n : Int)] → BsAt w (Nq w qu) A bs → ArgsAt w (Nq w qu) Aa a.args → ArgsAt w (Nq w qu) Ab b.args →
    Calls Try.prog 59 #[.pointer (some ⟨qu, 0, none⟩), a.v Aa ca, b.v Ab cb] w (PrR qu n a b w) := by
  induction N with
  | zero => intro n a b bs h; omega
  | succ N ih =>
    intro n a b bs hN Aa ca Ab cb A c w qu hn hlb hgb hoa hob hu hbs haa hab
    obtain ⟨X, HX⟩ : ∃ X, Hid (X = (w.alloc (.cells #[.int .i64 a.kind, .int .i64 a.n, .string a.name, .slice Aa a.args.length ca] 47)).alloc (.cells #[.int .i64 b.kind, .int .i64 b.n, .string b.name, .slice Ab b.args.length cb] 47)) := ⟨_, rfl⟩
    have hbX : Below w.heap.size w X := by rw [HX.out]; exact (bAlloc w _).alloc (by simp) _
    obtain ⟨r1, hr1⟩ : ∃ q, Hid (q = w.heap.size) := ⟨_, rfl⟩
    obtain ⟨r2, hr2⟩ : ∃ q, Hid (q = w.heap.size + 1) := ⟨_, rfl⟩
    have hk1 : Blk X r1 47 #[.int .i64 a.kind, .int .i64 a.n, .string a.name, .slice Aa a.args.length ca] := by rw [HX.out, hr1.out]; exact (Blk.new w _ _).alloc _
    have hk2 : Blk X r2 47 #[.int .i64 b.kind, .int .i64 b.n, .string b.name, .slice Ab b.args.length cb] := by
      rw [HX.out, hr2.out]
      have h1 := Blk.new (w.alloc (.cells #[.int .i64 a.kind, .int .i64 a.n, .string a.name, .slice Aa a.args.length ca] 47)) 47 #[.int .i64 b.kind, .int .i64 b.n, .string b.name, .slice Ab b.args.length cb]
      rw [World.size_alloc] at h1
      exact h1
    have hul := hu.lt
    have hkF : ∀ b, Nq w qu b → X.heap[b]? = w.heap[b]? := fun b h => hbX.block b h.1
    have hGF : ∀ b, Nq w qu b → Fq X qu r1 r2 b := fun b h => ⟨Nat.lt_of_lt_of_le h.1 hbX.size, h.2, by have := h.1; rw [hr1.out]; omega, by have := h.1; rw [hr2.out]; omega⟩
    have P0 := Lib.hid (show PS w qu r1 r2 A c bs n a Aa ca b Ab cb X from
      { kept := KeptQ.of hbX, u := hu.below hbX hu.lt, b1 := hk1, b2 := hk2, bi := hbs.keep hkF hGF, a1 := haa.keep hkF hGF, a2 := hab.keep hkF hGF, g := hgb, len := hlb, o1 := hoa, o2 := hob, lo1 := by rw [hr1.out]; exact Nat.le_refl _, lo2 := by rw [hr2.out]; omega, n1 := by rw [hr1.out]; omega, n2 := by rw [hr2.out]; omega, n3 := by rw [hr1.out, hr2.out]; omega })
    have HLB := Lib.hid hlb
    have HCA := Lib.hid (args_le a)
    clear hgb hoa hob hu hbs haa hab hk1 hk2 hkF hGF hbX hul
    go_enter Try.func59, Try.ntmps59
    go_upto_region 1 with fail
    rw [← HX.out, ← hr2.out, ← hr1.out]
    clear HX
    have m0 := P0.out.u.cell 0
    have fm0 := P0.out.u.frozen 0
    have m1 := P0.out.u.cell 1
    have fm1 := P0.out.u.frozen 1
    have lm := P0.out.u.lt
    simp at m0 m1
    by_cases hn2 : n = 1048576
    · have hd : decide ((n : Int) ≥ 1048576) = true := by simp; omega
      have hd2 : decide ((1048576 : Int) ≤ (n : Int)) = true := by simp; omega
      go_wp2_with fail
      go_ret
      exact P0.out.ret 2 (by omega) (by omega) (fun h => absurd h (by decide))
    have hlt : n < 1048576 := by omega
    clear hn2
    have hd : decide ((n : Int) ≥ 1048576) = false := by simp; omega
    have hd2 : decide ((1048576 : Int) ≤ (n : Int)) = false := by simp; omega
    go_upto_region 4 with fail
    obtain ⟨W0, HW0⟩ : ∃ X', Hid (X' = X.setCell ⟨qu, 1, none⟩ (.int .i64 ((n : Int) + 1))) := ⟨_, rfl⟩
    rw [← HW0.out]
    have PW0 := Lib.hid (P0.out.setN (w' := W0) (by rw [HW0.out]; exact (Upd.refl _ _).set 1 _) (by rw [HW0.out]; simpa using P0.out.u.set_ 1 (.int .i64 ((n : Int) + 1))))
    clear m0 m1 fm0 fm1 lm
    clear HW0 P0 hd hd2
    go_upto_region 4 with fail
    obtain ⟨D1, hD1⟩ : ∃ X, Hid (X = W0.drew) := ⟨_, rfl⟩
    have hd1 : Below W0.heap.size W0 D1 := by rw [hD1.out]; exact bDrewN (Below.refl _ _) 1
    have PD1 := Lib.hid (PW0.out.next hd1)
    have hS1 : (fun w' => Blk w' qu 85 #[.slice A bs.length c, .int .i64 (((n + 1 : Nat)) : Int)] ∧ Blk w' r1 47 #[.int .i64 a.kind, .int .i64 a.n, .string a.name, .slice Aa a.args.length ca] ∧ Blk w' r2 47 #[.int .i64 b.kind, .int .i64 b.n, .string b.name, .slice Ab b.args.length cb]) D1 := ⟨PD1.out.u, PD1.out.b1, PD1.out.b2⟩
    refine wp_region_N (fun w' => Blk w' qu 85 #[.slice A bs.length c, .int .i64 (((n + 1 : Nat)) : Int)] ∧ Blk w' r1 47 #[.int .i64 a.kind, .int .i64 a.n, .string a.name, .slice Aa a.args.length ca] ∧ Blk w' r2 47 #[.int .i64 b.kind, .int .i64 b.n, .string b.name, .slice Ab b.args.length cb]) (fun i => decide (i ≠ 6)) (by kernel_rfl) ?_
    rw [← hD1.out]
    clear hD1 hd1
    refine wpAnyN_take (i := 0) (v := ?v1) rfl (by kernel_rfl) (by kernel_rfl) (by kernel_rfl) (by kernel_rfl) (fun _ _ _ h => h) (Or.inl ⟨by rfl, ?hy1⟩) (by assumption) ?_
    case hy1 => intro w hSw; obtain ⟨b0, b1, b2⟩ := hSw; have m0 := b0.cell 0; have m1 := b0.cell 1; have p0 := b1.cell 0; have p1 := b1.cell 1; have p2 := b1.cell 2; have p3 := b1.cell 3; have s0 := b2.cell 0; have s1 := b2.cell 1; have s2 := b2.cell 2; have s3 := b2.cell 3; simp at m0 m1 p0 p1 p2 p3 s0 s1 s2 s3; go_simp; try with_reducible rfl
    simp only [Act.put, List.getElem_toArray, List.getElem_cons_zero, List.setIfInBounds_toArray, List.set_cons_zero, List.set_cons_succ]
    refine wpAnyN_take (i := 1) (v := ?v2) rfl (by kernel_rfl) (by kernel_rfl) (by kernel_rfl) (by kernel_rfl) (fun _ _ _ h => h) (Or.inl ⟨by rfl, ?hy2⟩) (by assumption) ?_
    case hy2 => intro w hSw; obtain ⟨b0, b1, b2⟩ := hSw; have m0 := b0.cell 0; have m1 := b0.cell 1; have p0 := b1.cell 0; have p1 := b1.cell 1; have p2 := b1.cell 2; have p3 := b1.cell 3; have s0 := b2.cell 0; have s1 := b2.cell 1; have s2 := b2.cell 2; have s3 := b2.cell 3; simp at m0 m1 p0 p1 p2 p3 s0 s1 s2 s3; go_simp; try with_reducible rfl
    simp only [Act.put, List.getElem_toArray, List.getElem_cons_zero, List.getElem_cons_succ, List.setIfInBounds_toArray, List.set_cons_zero, List.set_cons_succ]
    refine wpAnyN_take (i := 2) (v := ?v3) rfl (by kernel_rfl) (by kernel_rfl) (by kernel_rfl) (by kernel_rfl) (fun _ _ _ h => h) (Or.inl ⟨by rfl, ?hy3⟩) (by assumption) ?_
    case hy3 => intro w hSw; obtain ⟨b0, b1, b2⟩ := hSw; have m0 := b0.cell 0; have m1 := b0.cell 1; have p0 := b1.cell 0; have p1 := b1.cell 1; have p2 := b1.cell 2; have p3 := b1.cell 3; have s0 := b2.cell 0; have s1 := b2.cell 1; have s2 := b2.cell 2; have s3 := b2.cell 3; simp at m0 m1 p0 p1 p2 p3 s0 s1 s2 s3; go_simp; try with_reducible rfl
    simp only [Act.put, List.getElem_toArray, List.getElem_cons_zero, List.getElem_cons_succ, List.setIfInBounds_toArray, List.set_cons_zero, List.set_cons_succ]
    refine wpAnyN_take (i := 3) (v := ?v4) rfl (by kernel_rfl) (by kernel_rfl) (by kernel_rfl) (by kernel_rfl) (fun _ _ _ h => h) (Or.inl ⟨by rfl, ?hy4⟩) (by assumption) ?_
    case hy4 => intro w hSw; obtain ⟨b0, b1, b2⟩ := hSw; have m0 := b0.cell 0; have m1 := b0.cell 1; have p0 := b1.cell 0; have p1 := b1.cell 1; have p2 := b1.cell 2; have p3 := b1.cell 3; have s0 := b2.cell 0; have s1 := b2.cell 1; have s2 := b2.cell 2; have s3 := b2.cell 3; simp at m0 m1 p0 p1 p2 p3 s0 s1 s2 s3; go_simp; try with_reducible rfl
    simp only [Act.put, List.getElem_toArray, List.getElem_cons_zero, List.getElem_cons_succ, List.setIfInBounds_toArray, List.set_cons_zero, List.set_cons_succ]
    refine wpAnyN_take (i := 4) (v := ?v5) rfl (by kernel_rfl) (by kernel_rfl) (by kernel_rfl) (by kernel_rfl) (fun _ _ _ h => h) (Or.inl ⟨by rfl, ?hy5⟩) (by assumption) ?_
    case hy5 => intro w hSw; obtain ⟨b0, b1, b2⟩ := hSw; have m0 := b0.cell 0; have m1 := b0.cell 1; have p0 := b1.cell 0; have p1 := b1.cell 1; have p2 := b1.cell 2; have p3 := b1.cell 3; have s0 := b2.cell 0; have s1 := b2.cell 1; have s2 := b2.cell 2; have s3 := b2.cell 3; simp at m0 m1 p0 p1 p2 p3 s0 s1 s2 s3; go_simp; try with_reducible rfl
    simp only [Act.put, List.getElem_toArray, List.getElem_cons_zero, List.getElem_cons_succ, List.setIfInBounds_toArray, List.set_cons_zero, List.set_cons_succ]
    refine wpAnyN_one (i := 5) (by kernel_rfl) rfl (fun K hK => ?_)
    simp only [List.getElem_toArray, List.getElem_cons_zero, List.getElem_cons_succ]
    go_simp
    refine (follow_any bs a Aa ca D1 (fun b h => Fq.lt h) PD1.out.bi (by have := PD1.out.len; omega) PD1.out.g PD1.out.a1 PD1.out.o1).mono ?_
    rintro e w1 ⟨⟨t1, A1, c1, rfl, ha1, hf1⟩, hb1⟩
    have PE1 := Lib.hid (PD1.out.next hb1)
    have HA1 := Lib.hid (ha1.keep (w' := w1) (G := Fq w1 qu r1 r2) (fun b h => hb1.block b h.1) (fun b h => ⟨Nat.lt_of_lt_of_le h.1 hb1.size, h.2⟩))
    have HF1 := Lib.hid hf1
    have hT1 : (fun w' => Blk w' qu 85 #[.slice A bs.length c, .int .i64 (((n + 1 : Nat)) : Int)] ∧ Blk w' r1 47 #[.int .i64 a.kind, .int .i64 a.n, .string a.name, .slice Aa a.args.length ca] ∧ Blk w' r2 47 #[.int .i64 b.kind, .int .i64 b.n, .string b.name, .slice Ab b.args.length cb]) w1 := ⟨PE1.out.u, PE1.out.b1, PE1.out.b2⟩
    clear ha1 hf1 hb1 hS1
    refine hK _ _ (fun _ => hT1) ?_
    (try simp only [Act.put, List.setIfInBounds_toArray, List.set_cons_zero, List.set_cons_succ])
    have p0 := PE1.out.b1.cell 0
    have fp0 := PE1.out.b1.frozen 0
    have p1 := PE1.out.b1.cell 1
    have fp1 := PE1.out.b1.frozen 1
    have p2 := PE1.out.b1.cell 2
    have fp2 := PE1.out.b1.frozen 2
    have p3 := PE1.out.b1.cell 3
    have fp3 := PE1.out.b1.frozen 3
    have lp := PE1.out.b1.lt
    simp at p0 p1 p2 p3
    refine wpAnyN_one (i := 6) (by kernel_rfl) rfl (fun K hK => ?_)
    simp only [List.getElem_toArray, List.getElem_cons_zero, List.getElem_cons_succ]
    go_simp
    refine hK _ _ (fun h => absurd h (by decide)) ?_
    (try simp only [Act.put, List.setIfInBounds_toArray, List.set_cons_zero, List.set_cons_succ])
    refine wpAnyN_done (by kernel_rfl) ?_ _
    clear p0 p1 p2 p3 fp0 fp1 fp2 fp3 lp
    obtain ⟨W1, HW1⟩ : ∃ X, Hid (X = ((((w1.setCell ⟨r1, 0, none⟩ (.int .i64 t1.kind)).setCell ⟨r1, 1, none⟩ (.int .i64 t1.n)).setCell ⟨r1, 2, none⟩ (.string t1.name)).setCell ⟨r1, 3, none⟩ (.slice A1 t1.args.length c1))) := ⟨_, rfl⟩
    rw [← HW1.out]
    have hu1 : Upd r1 w1 W1 := by rw [HW1.out]; exact ((((Upd.refl _ _).set 0 _).set 1 _).set 2 _).set 3 _
    have hk1 : Blk W1 r1 47 #[.int .i64 t1.kind, .int .i64 t1.n, .string t1.name, .slice A1 t1.args.length c1] := by rw [HW1.out]; simpa using ((((PE1.out.b1.set_ 0 (.int .i64 t1.kind)).set_ 1 (.int .i64 t1.n)).set_ 2 (.string t1.name)).set_ 3 (.slice A1 t1.args.length c1))
    have PW1 := Lib.hid (PE1.out.fol hu1 hk1 HA1.out HF1.out.1)
    clear hu1 hk1 HW1 hT1 PE1 PD1 HA1
    go_upto_region 5 with fail
    obtain ⟨D2, hD2⟩ : ∃ X, Hid (X = W1.drew) := ⟨_, rfl⟩
    have hd2 : Below W1.heap.size W1 D2 := by rw [hD2.out]; exact bDrewN (Below.refl _ _) 1
    have PD2 := Lib.hid (PW1.out.next hd2)
    have hS2 : (fun w' => Blk w' qu 85 #[.slice A bs.length c, .int .i64 (((n + 1 : Nat)) : Int)] ∧ Blk w' r1 47 #[.int .i64 t1.kind, .int .i64 t1.n, .string t1.name, .slice A1 t1.args.length c1] ∧ Blk w' r2 47 #[.int .i64 b.kind, .int .i64 b.n, .string b.name, .slice Ab b.args.length cb]) D2 := ⟨PD2.out.u, PD2.out.b1, PD2.out.b2⟩
    refine wp_region_N (fun w' => Blk w' qu 85 #[.slice A bs.length c, .int .i64 (((n + 1 : Nat)) : Int)] ∧ Blk w' r1 47 #[.int .i64 t1.kind, .int .i64 t1.n, .string t1.name, .slice A1 t1.args.length c1] ∧ Blk w' r2 47 #[.int .i64 b.kind, .int .i64 b.n, .string b.name, .slice Ab b.args.length cb]) (fun i => decide (i ≠ 6)) (by kernel_rfl) ?_
    rw [← hD2.out]
    clear hD2 hd2
    refine wpAnyN_take (i := 0) (v := ?v6) rfl (by kernel_rfl) (by kernel_rfl) (by kernel_rfl) (by kernel_rfl) (fun _ _ _ h => h) (Or.inl ⟨by rfl, ?hy6⟩) (by assumption) ?_
    case hy6 => intro w hSw; obtain ⟨b0, b1, b2⟩ := hSw; have m0 := b0.cell 0; have m1 := b0.cell 1; have p0 := b1.cell 0; have p1 := b1.cell 1; have p2 := b1.cell 2; have p3 := b1.cell 3; have s0 := b2.cell 0; have s1 := b2.cell 1; have s2 := b2.cell 2; have s3 := b2.cell 3; simp at m0 m1 p0 p1 p2 p3 s0 s1 s2 s3; go_simp; try with_reducible rfl
    simp only [Act.put, List.getElem_toArray, List.getElem_cons_zero, List.setIfInBounds_toArray, List.set_cons_zero, List.set_cons_succ]
    refine wpAnyN_take (i := 1) (v := ?v7) rfl (by kernel_rfl) (by kernel_rfl) (by kernel_rfl) (by kernel_rfl) (fun _ _ _ h => h) (Or.inl ⟨by rfl, ?hy7⟩) (by assumption) ?_
    case hy7 => intro w hSw; obtain ⟨b0, b1, b2⟩ := hSw; have m0 := b0.cell 0; have m1 := b0.cell 1; have p0 := b1.cell 0; have p1 := b1.cell 1; have p2 := b1.cell 2; have p3 := b1.cell 3; have s0 := b2.cell 0; have s1 := b2.cell 1; have s2 := b2.cell 2; have s3 := b2.cell 3; simp at m0 m1 p0 p1 p2 p3 s0 s1 s2 s3; go_simp; try with_reducible rfl
    simp only [Act.put, List.getElem_toArray, List.getElem_cons_zero, List.getElem_cons_succ, List.setIfInBounds_toArray, List.set_cons_zero, List.set_cons_succ]
    refine wpAnyN_take (i := 2) (v := ?v8) rfl (by kernel_rfl) (by kernel_rfl) (by kernel_rfl) (by kernel_rfl) (fun _ _ _ h => h) (Or.inl ⟨by rfl, ?hy8⟩) (by assumption) ?_
    case hy8 => intro w hSw; obtain ⟨b0, b1, b2⟩ := hSw; have m0 := b0.cell 0; have m1 := b0.cell 1; have p0 := b1.cell 0; have p1 := b1.cell 1; have p2 := b1.cell 2; have p3 := b1.cell 3; have s0 := b2.cell 0; have s1 := b2.cell 1; have s2 := b2.cell 2; have s3 := b2.cell 3; simp at m0 m1 p0 p1 p2 p3 s0 s1 s2 s3; go_simp; try with_reducible rfl
    simp only [Act.put, List.getElem_toArray, List.getElem_cons_zero, List.getElem_cons_succ, List.setIfInBounds_toArray, List.set_cons_zero, List.set_cons_succ]
    refine wpAnyN_take (i := 3) (v := ?v9) rfl (by kernel_rfl) (by kernel_rfl) (by kernel_rfl) (by kernel_rfl) (fun _ _ _ h => h) (Or.inl ⟨by rfl, ?hy9⟩) (by assumption) ?_
    case hy9 => intro w hSw; obtain ⟨b0, b1, b2⟩ := hSw; have m0 := b0.cell 0; have m1 := b0.cell 1; have p0 := b1.cell 0; have p1 := b1.cell 1; have p2 := b1.cell 2; have p3 := b1.cell 3; have s0 := b2.cell 0; have s1 := b2.cell 1; have s2 := b2.cell 2; have s3 := b2.cell 3; simp at m0 m1 p0 p1 p2 p3 s0 s1 s2 s3; go_simp; try with_reducible rfl
    simp only [Act.put, List.getElem_toArray, List.getElem_cons_zero, List.getElem_cons_succ, List.setIfInBounds_toArray, List.set_cons_zero, List.set_cons_succ]
    refine wpAnyN_take (i := 4) (v := ?v10) rfl (by kernel_rfl) (by kernel_rfl) (by kernel_rfl) (by kernel_rfl) (fun _ _ _ h => h) (Or.inl ⟨by rfl, ?hy10⟩) (by assumption) ?_
    case hy10 => intro w hSw; obtain ⟨b0, b1, b2⟩ := hSw; have m0 := b0.cell 0; have m1 := b0.cell 1; have p0 := b1.cell 0; have p1 := b1.cell 1; have p2 := b1.cell 2; have p3 := b1.cell 3; have s0 := b2.cell 0; have s1 := b2.cell 1; have s2 := b2.cell 2; have s3 := b2.cell 3; simp at m0 m1 p0 p1 p2 p3 s0 s1 s2 s3; go_simp; try with_reducible rfl
    simp only [Act.put, List.getElem_toArray, List.getElem_cons_zero, List.getElem_cons_succ, List.setIfInBounds_toArray, List.set_cons_zero, List.set_cons_succ]
    refine wpAnyN_one (i := 5) (by kernel_rfl) rfl (fun K hK => ?_)
    simp only [List.getElem_toArray, List.getElem_cons_zero, List.getElem_cons_succ]
    go_simp
    refine (follow_any bs b Ab cb D2 (fun b h => Fq.lt h) PD2.out.bi (by have := PD2.out.len; omega) PD2.out.g PD2.out.a2 PD2.out.o2).mono ?_
    rintro e w2 ⟨⟨t2, A2, c2, rfl, ha2, hf2⟩, hb2⟩
    have PE2 := Lib.hid (PD2.out.next hb2)
    have HA2 := Lib.hid (ha2.keep (w' := w2) (G := Fq w2 qu r1 r2) (fun b h => hb2.block b h.1) (fun b h => ⟨Nat.lt_of_lt_of_le h.1 hb2.size, h.2⟩))
    have HF2 := Lib.hid hf2
    have hT2 : (fun w' => Blk w' qu 85 #[.slice A bs.length c, .int .i64 (((n + 1 : Nat)) : Int)] ∧ Blk w' r1 47 #[.int .i64 t1.kind, .int .i64 t1.n, .string t1.name, .slice A1 t1.args.length c1] ∧ Blk w' r2 47 #[.int .i64 b.kind, .int .i64 b.n, .string b.name, .slice Ab b.args.length cb]) w2 := ⟨PE2.out.u, PE2.out.b1, PE2.out.b2⟩
    clear ha2 hf2 hb2 hS2
    refine hK _ _ (fun _ => hT2) ?_
    (try simp only [Act.put, List.setIfInBounds_toArray, List.set_cons_zero, List.set_cons_succ])
    have s0 := PE2.out.b2.cell 0
    have fs0 := PE2.out.b2.frozen 0
    have s1 := PE2.out.b2.cell 1
    have fs1 := PE2.out.b2.frozen 1
    have s2 := PE2.out.b2.cell 2
    have fs2 := PE2.out.b2.frozen 2
    have s3 := PE2.out.b2.cell 3
    have fs3 := PE2.out.b2.frozen 3
    have ls := PE2.out.b2.lt
    simp at s0 s1 s2 s3
    refine wpAnyN_one (i := 6) (by kernel_rfl) rfl (fun K hK => ?_)
    simp only [List.getElem_toArray, List.getElem_cons_zero, List.getElem_cons_succ]
    go_simp
    refine hK _ _ (fun h => absurd h (by decide)) ?_
    (try simp only [Act.put, List.setIfInBounds_toArray, List.set_cons_zero, List.set_cons_succ])
    refine wpAnyN_done (by kernel_rfl) ?_ _
    clear s0 s1 s2 s3 fs0 fs1 fs2 fs3 ls
    obtain ⟨W2, HW2⟩ : ∃ X, Hid (X = ((((w2.setCell ⟨r2, 0, none⟩ (.int .i64 t2.kind)).setCell ⟨r2, 1, none⟩ (.int .i64 t2.n)).setCell ⟨r2, 2, none⟩ (.string t2.name)).setCell ⟨r2, 3, none⟩ (.slice A2 t2.args.length c2))) := ⟨_, rfl⟩
    rw [← HW2.out]
    have hu2 : Upd r2 w2 W2 := by rw [HW2.out]; exact ((((Upd.refl _ _).set 0 _).set 1 _).set 2 _).set 3 _
    have hk2 : Blk W2 r2 47 #[.int .i64 t2.kind, .int .i64 t2.n, .string t2.name, .slice A2 t2.args.length c2] := by rw [HW2.out]; simpa using ((((PE2.out.b2.set_ 0 (.int .i64 t2.kind)).set_ 1 (.int .i64 t2.n)).set_ 2 (.string t2.name)).set_ 3 (.slice A2 t2.args.length c2))
    have PW2 := Lib.hid ((PE2.out.swap.fol hu2 hk2 (HA2.out.keep (fun _ _ => rfl) (fun b h => ⟨h.1, h.2.1, h.2.2.2, h.2.2.1⟩)) HF2.out.1).swap)
    clear hu2 hk2 HW2 hT2 PE2 PD2 HA2
    have m0 := PW2.out.u.cell 0
    have fm0 := PW2.out.u.frozen 0
    have m1 := PW2.out.u.cell 1
    have fm1 := PW2.out.u.frozen 1
    have lm := PW2.out.u.lt
    simp at m0 m1
    have p0 := PW2.out.b1.cell 0
    have fp0 := PW2.out.b1.frozen 0
    have p1 := PW2.out.b1.cell 1
    have fp1 := PW2.out.b1.frozen 1
    have p2 := PW2.out.b1.cell 2
    have fp2 := PW2.out.b1.frozen 2
    have p3 := PW2.out.b1.cell 3
    have fp3 := PW2.out.b1.frozen 3
    have lp := PW2.out.b1.lt
    simp at p0 p1 p2 p3
    have s0 := PW2.out.b2.cell 0
    have fs0 := PW2.out.b2.frozen 0
    have s1 := PW2.out.b2.cell 1
    have fs1 := PW2.out.b2.frozen 1
    have s2 := PW2.out.b2.cell 2
    have fs2 := PW2.out.b2.frozen 2
    have s3 := PW2.out.b2.cell 3
    have fs3 := PW2.out.b2.frozen 3
    have ls := PW2.out.b2.lt
    simp at s0 s1 s2 s3
    by_cases hka : t1.kind = 0
    · have hkab : (t1.kind == 0) = true := by simp [hka]
      have HKA := Lib.hid hka
      clear hka
      by_cases hkb : t2.kind = 0
      · have hkbb : (t2.kind == 0) = true := by simp [hkb]
        have HKB := Lib.hid hkb
        clear hkb
        by_cases hgt : t2.n < t1.n
        · have hg1 : decide (t1.n > t2.n) = true := by simp; omega
          have hg2 : decide (t2.n < t1.n) = true := by simp; omega
          have HGT := Lib.hid hgt
          clear hgt
          go_upto_region 8 with fail
          obtain ⟨D3, hD3⟩ : ∃ X, Hid (X = W2.drew) := ⟨_, rfl⟩
          have hd3 : Below W2.heap.size W2 D3 := by rw [hD3.out]; exact bDrewN (Below.refl _ _) 1
          have PD3 := Lib.hid (PW2.out.next hd3)
          have hS3 : (fun w' => Blk w' qu 85 #[.slice A bs.length c, .int .i64 (((n + 1 : Nat)) : Int)] ∧ Blk w' r1 47 #[.int .i64 t1.kind, .int .i64 t1.n, .string t1.name, .slice A1 t1.args.length c1] ∧ Blk w' r2 47 #[.int .i64 t2.kind, .int .i64 t2.n, .string t2.name, .slice A2 t2.args.length c2]) D3 := ⟨PD3.out.u, PD3.out.b1, PD3.out.b2⟩
          refine wp_region_N (fun w' => Blk w' qu 85 #[.slice A bs.length c, .int .i64 (((n + 1 : Nat)) : Int)] ∧ Blk w' r1 47 #[.int .i64 t1.kind, .int .i64 t1.n, .string t1.name, .slice A1 t1.args.length c1] ∧ Blk w' r2 47 #[.int .i64 t2.kind, .int .i64 t2.n, .string t2.name, .slice A2 t2.args.length c2]) (fun i => decide (i ≠ 11)) (by kernel_rfl) ?_
          rw [← hD3.out]
          clear hD3 hd3
          refine wpAnyN_take (i := 0) (v := ?v11) rfl (by kernel_rfl) (by kernel_rfl) (by kernel_rfl) (by kernel_rfl) (fun _ _ _ h => h) (Or.inl ⟨by rfl, ?hy11⟩) (by assumption) ?_
          case hy11 => intro w hSw; obtain ⟨b0, b1, b2⟩ := hSw; have m0 := b0.cell 0; have m1 := b0.cell 1; have p0 := b1.cell 0; have p1 := b1.cell 1; have p2 := b1.cell 2; have p3 := b1.cell 3; have s0 := b2.cell 0; have s1 := b2.cell 1; have s2 := b2.cell 2; have s3 := b2.cell 3; simp at m0 m1 p0 p1 p2 p3 s0 s1 s2 s3; go_simp; try with_reducible rfl
          simp only [Act.put, List.getElem_toArray, List.getElem_cons_zero, List.setIfInBounds_toArray, List.set_cons_zero, List.set_cons_succ]
          refine wpAnyN_take (i := 1) (v := ?v12) rfl (by kernel_rfl) (by kernel_rfl) (by kernel_rfl) (by kernel_rfl) (fun _ _ _ h => h) (Or.inl ⟨by rfl, ?hy12⟩) (by assumption) ?_
          case hy12 => intro w hSw; obtain ⟨b0, b1, b2⟩ := hSw; have m0 := b0.cell 0; have m1 := b0.cell 1; have p0 := b1.cell 0; have p1 := b1.cell 1; have p2 := b1.cell 2; have p3 := b1.cell 3; have s0 := b2.cell 0; have s1 := b2.cell 1; have s2 := b2.cell 2; have s3 := b2.cell 3; simp at m0 m1 p0 p1 p2 p3 s0 s1 s2 s3; go_simp; try with_reducible rfl
          simp only [Act.put, List.getElem_toArray, List.getElem_cons_zero, List.getElem_cons_succ, List.setIfInBounds_toArray, List.set_cons_zero, List.set_cons_succ]
          refine wpAnyN_take (i := 2) (v := ?v13) rfl (by kernel_rfl) (by kernel_rfl) (by kernel_rfl) (by kernel_rfl) (fun _ _ _ h => h) (Or.inl ⟨by rfl, ?hy13⟩) (by assumption) ?_
          case hy13 => intro w hSw; obtain ⟨b0, b1, b2⟩ := hSw; have m0 := b0.cell 0; have m1 := b0.cell 1; have p0 := b1.cell 0; have p1 := b1.cell 1; have p2 := b1.cell 2; have p3 := b1.cell 3; have s0 := b2.cell 0; have s1 := b2.cell 1; have s2 := b2.cell 2; have s3 := b2.cell 3; simp at m0 m1 p0 p1 p2 p3 s0 s1 s2 s3; go_simp; try with_reducible rfl
          simp only [Act.put, List.getElem_toArray, List.getElem_cons_zero, List.getElem_cons_succ, List.setIfInBounds_toArray, List.set_cons_zero, List.set_cons_succ]
          refine wpAnyN_take (i := 3) (v := ?v14) rfl (by kernel_rfl) (by kernel_rfl) (by kernel_rfl) (by kernel_rfl) (fun _ _ _ h => h) (Or.inl ⟨by rfl, ?hy14⟩) (by assumption) ?_
          case hy14 => intro w hSw; obtain ⟨b0, b1, b2⟩ := hSw; have m0 := b0.cell 0; have m1 := b0.cell 1; have p0 := b1.cell 0; have p1 := b1.cell 1; have p2 := b1.cell 2; have p3 := b1.cell 3; have s0 := b2.cell 0; have s1 := b2.cell 1; have s2 := b2.cell 2; have s3 := b2.cell 3; simp at m0 m1 p0 p1 p2 p3 s0 s1 s2 s3; go_simp; try with_reducible rfl
          simp only [Act.put, List.getElem_toArray, List.getElem_cons_zero, List.getElem_cons_succ, List.setIfInBounds_toArray, List.set_cons_zero, List.set_cons_succ]
          refine wpAnyN_take (i := 4) (v := ?v15) rfl (by kernel_rfl) (by kernel_rfl) (by kernel_rfl) (by kernel_rfl) (fun _ _ _ h => h) (Or.inl ⟨by rfl, ?hy15⟩) (by assumption) ?_
          case hy15 => intro w hSw; obtain ⟨b0, b1, b2⟩ := hSw; have m0 := b0.cell 0; have m1 := b0.cell 1; have p0 := b1.cell 0; have p1 := b1.cell 1; have p2 := b1.cell 2; have p3 := b1.cell 3; have s0 := b2.cell 0; have s1 := b2.cell 1; have s2 := b2.cell 2; have s3 := b2.cell 3; simp at m0 m1 p0 p1 p2 p3 s0 s1 s2 s3; go_simp; try with_reducible rfl
          simp only [Act.put, List.getElem_toArray, List.getElem_cons_zero, List.getElem_cons_succ, List.setIfInBounds_toArray, List.set_cons_zero, List.set_cons_succ]
          refine wpAnyN_take (i := 5) (v := ?v16) rfl (by kernel_rfl) (by kernel_rfl) (by kernel_rfl) (by kernel_rfl) (fun _ _ _ h => h) (Or.inl ⟨by rfl, ?hy16⟩) (by assumption) ?_
          case hy16 => intro w hSw; obtain ⟨b0, b1, b2⟩ := hSw; have m0 := b0.cell 0; have m1 := b0.cell 1; have p0 := b1.cell 0; have p1 := b1.cell 1; have p2 := b1.cell 2; have p3 := b1.cell 3; have s0 := b2.cell 0; have s1 := b2.cell 1; have s2 := b2.cell 2; have s3 := b2.cell 3; simp at m0 m1 p0 p1 p2 p3 s0 s1 s2 s3; go_simp; try with_reducible rfl
          simp only [Act.put, List.getElem_toArray, List.getElem_cons_zero, List.getElem_cons_succ, List.setIfInBounds_toArray, List.set_cons_zero, List.set_cons_succ]
          refine wpAnyN_take (i := 6) (v := ?v17) rfl (by kernel_rfl) (by kernel_rfl) (by kernel_rfl) (by kernel_rfl) (fun _ _ _ h => h) (Or.inl ⟨by rfl, ?hy17⟩) (by assumption) ?_
          case hy17 => intro w hSw; obtain ⟨b0, b1, b2⟩ := hSw; have m0 := b0.cell 0; have m1 := b0.cell 1; have p0 := b1.cell 0; have p1 := b1.cell 1; have p2 := b1.cell 2; have p3 := b1.cell 3; have s0 := b2.cell 0; have s1 := b2.cell 1; have s2 := b2.cell 2; have s3 := b2.cell 3; simp at m0 m1 p0 p1 p2 p3 s0 s1 s2 s3; go_simp; try with_reducible rfl
          simp only [Act.put, List.getElem_toArray, List.getElem_cons_zero, List.getElem_cons_succ, List.setIfInBounds_toArray, List.set_cons_zero, List.set_cons_succ]
          refine wpAnyN_take (i := 7) (v := ?v18) rfl (by kernel_rfl) (by kernel_rfl) (by kernel_rfl) (by kernel_rfl) (fun _ _ _ h => h) (Or.inl ⟨by rfl, ?hy18⟩) (by assumption) ?_
          case hy18 => intro w hSw; obtain ⟨b0, b1, b2⟩ := hSw; have m0 := b0.cell 0; have m1 := b0.cell 1; have p0 := b1.cell 0; have p1 := b1.cell 1; have p2 := b1.cell 2; have p3 := b1.cell 3; have s0 := b2.cell 0; have s1 := b2.cell 1; have s2 := b2.cell 2; have s3 := b2.cell 3; simp at m0 m1 p0 p1 p2 p3 s0 s1 s2 s3; go_simp; try with_reducible rfl
          simp only [Act.put, List.getElem_toArray, List.getElem_cons_zero, List.getElem_cons_succ, List.setIfInBounds_toArray, List.set_cons_zero, List.set_cons_succ]
          refine wpAnyN_one (i := 8) (by kernel_rfl) rfl (fun K hK => ?_)
          simp only [List.getElem_toArray, List.getElem_cons_zero, List.getElem_cons_succ]
          go_simp
          refine (bound_any bs t1.n t2 A2 c2 D3 (PD3.out.bi.keep (fun _ _ => rfl) (fun b h => h.1)) (by have := PD3.out.len; omega)).mono ?_
          rintro e w3 ⟨⟨A3, c3, bs3, rfl, hr3, hl3, hm3⟩, hb3⟩
          have PE3 := Lib.hid (PD3.out.next hb3)
          have hT3 : (fun w' => Blk w' qu 85 #[.slice A bs.length c, .int .i64 (((n + 1 : Nat)) : Int)] ∧ Blk w' r1 47 #[.int .i64 t1.kind, .int .i64 t1.n, .string t1.name, .slice A1 t1.args.length c1] ∧ Blk w' r2 47 #[.int .i64 t2.kind, .int .i64 t2.n, .string t2.name, .slice A2 t2.args.length c2]) w3 := ⟨PE3.out.u, PE3.out.b1, PE3.out.b2⟩
          have HR3 := Lib.hid hr3
          have HL3 := Lib.hid hl3
          have HM3 := Lib.hid hm3
          have HB3 := Lib.hid hb3
          clear hr3 hl3 hm3 hb3 hS3
          refine hK _ _ (fun _ => hT3) ?_
          (try simp only [Act.put, List.setIfInBounds_toArray, List.set_cons_zero, List.set_cons_succ])
          refine wpAnyN_one (i := 9) (by kernel_rfl) rfl (fun K hK => ?_)
          simp only [List.getElem_toArray, List.getElem_cons_zero, List.getElem_cons_succ]
          go_simp
          refine hK _ _ (fun _ => hT3) ?_
          (try simp only [Act.put, List.setIfInBounds_toArray, List.set_cons_zero, List.set_cons_succ])
          refine wpAnyN_one (i := 10) (by kernel_rfl) rfl (fun K hK => ?_)
          simp only [List.getElem_toArray, List.getElem_cons_zero, List.getElem_cons_succ]
          go_simp
          refine hK _ _ (fun _ => hT3) ?_
          (try simp only [Act.put, List.setIfInBounds_toArray, List.set_cons_zero, List.set_cons_succ])
          have m0 := PE3.out.u.cell 0
          have fm0 := PE3.out.u.frozen 0
          have m1 := PE3.out.u.cell 1
          have fm1 := PE3.out.u.frozen 1
          have lm := PE3.out.u.lt
          simp at m0 m1
          refine wpAnyN_one (i := 11) (by kernel_rfl) rfl (fun K hK => ?_)
          simp only [List.getElem_toArray, List.getElem_cons_zero, List.getElem_cons_succ]
          go_simp
          refine hK _ _ (fun h => absurd h (by decide)) ?_
          (try simp only [Act.put, List.setIfInBounds_toArray, List.set_cons_zero, List.set_cons_succ])
          refine wpAnyN_done (by kernel_rfl) ?_ _
          clear m0 m1 fm0 fm1 lm
          obtain ⟨W3, HW3⟩ : ∃ X, Hid (X = w3.setCell ⟨qu, 0, none⟩ (.slice A3 bs3.length c3)) := ⟨_, rfl⟩
          rw [← HW3.out]
          have hu3 : Upd qu w3 W3 := by rw [HW3.out]; exact (Upd.refl _ _).set 0 _
          have hk3 : Blk W3 qu 85 #[.slice A3 bs3.length c3, .int .i64 (((n + 1 : Nat)) : Int)] := by rw [HW3.out]; simpa using PE3.out.u.set_ 0 (.slice A3 bs3.length c3)
          have PW3 := Lib.hid (PD3.out.bind PD3.out.a2 PD3.out.o2 (fun _ => HGT.out) HB3.out HR3.out HL3.out HM3.out hu3 hk3 (by have := HLB.out; omega))
          clear hu3 hk3 HW3 hT3 PE3 PD3 HR3 HL3 HM3 HB3
          go_wp2_with fail
          go_ret
          exact PW3.out.ret 0 (by omega) (by omega) (fun _ h1 h2 => absurd (HF1.out.2.2 HKA.out) h1)
        have hg1 : decide (t1.n > t2.n) = false := by simp; omega
        have hg2 : decide (t2.n < t1.n) = false := by simp; omega
        by_cases hls : t1.n < t2.n
        · have hg3 : decide (t1.n < t2.n) = true := by simp; omega
          have HLS := Lib.hid hls
          clear hls hgt
          go_upto_region 10 with fail
          obtain ⟨D4, hD4⟩ : ∃ X, Hid (X = W2.drew) := ⟨_, rfl⟩
          have hd4 : Below W2.heap.size W2 D4 := by rw [hD4.out]; exact bDrewN (Below.refl _ _) 1
          have PD4 := Lib.hid (PW2.out.next hd4)
          have hS4 : (fun w' => Blk w' qu 85 #[.slice A bs.length c, .int .i64 (((n + 1 : Nat)) : Int)] ∧ Blk w' r1 47 #[.int .i64 t1.kind, .int .i64 t1.n, .string t1.name, .slice A1 t1.args.length c1] ∧ Blk w' r2 47 #[.int .i64 t2.kind, .int .i64 t2.n, .string t2.name, .slice A2 t2.args.length c2]) D4 := ⟨PD4.out.u, PD4.out.b1, PD4.out.b2⟩
          refine wp_region_N (fun w' => Blk w' qu 85 #[.slice A bs.length c, .int .i64 (((n + 1 : Nat)) : Int)] ∧ Blk w' r1 47 #[.int .i64 t1.kind, .int .i64 t1.n, .string t1.name, .slice A1 t1.args.length c1] ∧ Blk w' r2 47 #[.int .i64 t2.kind, .int .i64 t2.n, .string t2.name, .slice A2 t2.args.length c2]) (fun i => decide (i ≠ 11)) (by kernel_rfl) ?_
          rw [← hD4.out]
          clear hD4 hd4
          refine wpAnyN_take (i := 0) (v := ?v19) rfl (by kernel_rfl) (by kernel_rfl) (by kernel_rfl) (by kernel_rfl) (fun _ _ _ h => h) (Or.inl ⟨by rfl, ?hy19⟩) (by assumption) ?_
          case hy19 => intro w hSw; obtain ⟨b0, b1, b2⟩ := hSw; have m0 := b0.cell 0; have m1 := b0.cell 1; have p0 := b1.cell 0; have p1 := b1.cell 1; have p2 := b1.cell 2; have p3 := b1.cell 3; have s0 := b2.cell 0; have s1 := b2.cell 1; have s2 := b2.cell 2; have s3 := b2.cell 3; simp at m0 m1 p0 p1 p2 p3 s0 s1 s2 s3; go_simp; try with_reducible rfl
          simp only [Act.put, List.getElem_toArray, List.getElem_cons_zero, List.setIfInBounds_toArray, List.set_cons_zero, List.set_cons_succ]
          refine wpAnyN_take (i := 1) (v := ?v20) rfl (by kernel_rfl) (by kernel_rfl) (by kernel_rfl) (by kernel_rfl) (fun _ _ _ h => h) (Or.inl ⟨by rfl, ?hy20⟩) (by assumption) ?_
          case hy20 => intro w hSw; obtain ⟨b0, b1, b2⟩ := hSw; have m0 := b0.cell 0; have m1 := b0.cell 1; have p0 := b1.cell 0; have p1 := b1.cell 1; have p2 := b1.cell 2; have p3 := b1.cell 3; have s0 := b2.cell 0; have s1 := b2.cell 1; have s2 := b2.cell 2; have s3 := b2.cell 3; simp at m0 m1 p0 p1 p2 p3 s0 s1 s2 s3; go_simp; try with_reducible rfl
          simp only [Act.put, List.getElem_toArray, List.getElem_cons_zero, List.getElem_cons_succ, List.setIfInBounds_toArray, List.set_cons_zero, List.set_cons_succ]
          refine wpAnyN_take (i := 2) (v := ?v21) rfl (by kernel_rfl) (by kernel_rfl) (by kernel_rfl) (by kernel_rfl) (fun _ _ _ h => h) (Or.inl ⟨by rfl, ?hy21⟩) (by assumption) ?_
          case hy21 => intro w hSw; obtain ⟨b0, b1, b2⟩ := hSw; have m0 := b0.cell 0; have m1 := b0.cell 1; have p0 := b1.cell 0; have p1 := b1.cell 1; have p2 := b1.cell 2; have p3 := b1.cell 3; have s0 := b2.cell 0; have s1 := b2.cell 1; have s2 := b2.cell 2; have s3 := b2.cell 3; simp at m0 m1 p0 p1 p2 p3 s0 s1 s2 s3; go_simp; try with_reducible rfl
          simp only [Act.put, List.getElem_toArray, List.getElem_cons_zero, List.getElem_cons_succ, List.setIfInBounds_toArray, List.set_cons_zero, List.set_cons_succ]
          refine wpAnyN_take (i := 3) (v := ?v22) rfl (by kernel_rfl) (by kernel_rfl) (by kernel_rfl) (by kernel_rfl) (fun _ _ _ h => h) (Or.inl ⟨by rfl, ?hy22⟩) (by assumption) ?_
          case hy22 => intro w hSw; obtain ⟨b0, b1, b2⟩ := hSw; have m0 := b0.cell 0; have m1 := b0.cell 1; have p0 := b1.cell 0; have p1 := b1.cell 1; have p2 := b1.cell 2; have p3 := b1.cell 3; have s0 := b2.cell 0; have s1 := b2.cell 1; have s2 := b2.cell 2; have s3 := b2.cell 3; simp at m0 m1 p0 p1 p2 p3 s0 s1 s2 s3; go_simp; try with_reducible rfl
          simp only [Act.put, List.getElem_toArray, List.getElem_cons_zero, List.getElem_cons_succ, List.setIfInBounds_toArray, List.set_cons_zero, List.set_cons_succ]
          refine wpAnyN_take (i := 4) (v := ?v23) rfl (by kernel_rfl) (by kernel_rfl) (by kernel_rfl) (by kernel_rfl) (fun _ _ _ h => h) (Or.inl ⟨by rfl, ?hy23⟩) (by assumption) ?_
          case hy23 => intro w hSw; obtain ⟨b0, b1, b2⟩ := hSw; have m0 := b0.cell 0; have m1 := b0.cell 1; have p0 := b1.cell 0; have p1 := b1.cell 1; have p2 := b1.cell 2; have p3 := b1.cell 3; have s0 := b2.cell 0; have s1 := b2.cell 1; have s2 := b2.cell 2; have s3 := b2.cell 3; simp at m0 m1 p0 p1 p2 p3 s0 s1 s2 s3; go_simp; try with_reducible rfl
          simp only [Act.put, List.getElem_toArray, List.getElem_cons_zero, List.getElem_cons_succ, List.setIfInBounds_toArray, List.set_cons_zero, List.set_cons_succ]
          refine wpAnyN_take (i := 5) (v := ?v24) rfl (by kernel_rfl) (by kernel_rfl) (by kernel_rfl) (by kernel_rfl) (fun _ _ _ h => h) (Or.inl ⟨by rfl, ?hy24⟩) (by assumption) ?_
          case hy24 => intro w hSw; obtain ⟨b0, b1, b2⟩ := hSw; have m0 := b0.cell 0; have m1 := b0.cell 1; have p0 := b1.cell 0; have p1 := b1.cell 1; have p2 := b1.cell 2; have p3 := b1.cell 3; have s0 := b2.cell 0; have s1 := b2.cell 1; have s2 := b2.cell 2; have s3 := b2.cell 3; simp at m0 m1 p0 p1 p2 p3 s0 s1 s2 s3; go_simp; try with_reducible rfl
          simp only [Act.put, List.getElem_toArray, List.getElem_cons_zero, List.getElem_cons_succ, List.setIfInBounds_toArray, List.set_cons_zero, List.set_cons_succ]
          refine wpAnyN_take (i := 6) (v := ?v25) rfl (by kernel_rfl) (by kernel_rfl) (by kernel_rfl) (by kernel_rfl) (fun _ _ _ h => h) (Or.inl ⟨by rfl, ?hy25⟩) (by assumption) ?_
          case hy25 => intro w hSw; obtain ⟨b0, b1, b2⟩ := hSw; have m0 := b0.cell 0; have m1 := b0.cell 1; have p0 := b1.cell 0; have p1 := b1.cell 1; have p2 := b1.cell 2; have p3 := b1.cell 3; have s0 := b2.cell 0; have s1 := b2.cell 1; have s2 := b2.cell 2; have s3 := b2.cell 3; simp at m0 m1 p0 p1 p2 p3 s0 s1 s2 s3; go_simp; try with_reducible rfl
          simp only [Act.put, List.getElem_toArray, List.getElem_cons_zero, List.getElem_cons_succ, List.setIfInBounds_toArray, List.set_cons_zero, List.set_cons_succ]
          refine wpAnyN_take (i := 7) (v := ?v26) rfl (by kernel_rfl) (by kernel_rfl) (by kernel_rfl) (by kernel_rfl) (fun _ _ _ h => h) (Or.inl ⟨by rfl, ?hy26⟩) (by assumption) ?_
          case hy26 => intro w hSw; obtain ⟨b0, b1, b2⟩ := hSw; have m0 := b0.cell 0; have m1 := b0.cell 1; have p0 := b1.cell 0; have p1 := b1.cell 1; have p2 := b1.cell 2; have p3 := b1.cell 3; have s0 := b2.cell 0; have s1 := b2.cell 1; have s2 := b2.cell 2; have s3 := b2.cell 3; simp at m0 m1 p0 p1 p2 p3 s0 s1 s2 s3; go_simp; try with_reducible rfl
          simp only [Act.put, List.getElem_toArray, List.getElem_cons_zero, List.getElem_cons_succ, List.setIfInBounds_toArray, List.set_cons_zero, List.set_cons_succ]
          refine wpAnyN_one (i := 8) (by kernel_rfl) rfl (fun K hK => ?_)
          simp only [List.getElem_toArray, List.getElem_cons_zero, List.getElem_cons_succ]
          go_simp
          refine (bound_any bs t2.n t1 A1 c1 D4 (PD4.out.bi.keep (fun _ _ => rfl) (fun b h => h.1)) (by have := PD4.out.len; omega)).mono ?_
          rintro e w4 ⟨⟨A4, c4, bs4, rfl, hr4, hl4, hm4⟩, hb4⟩
          have PE4 := Lib.hid (PD4.out.next hb4)
          have hT4 : (fun w' => Blk w' qu 85 #[.slice A bs.length c, .int .i64 (((n + 1 : Nat)) : Int)] ∧ Blk w' r1 47 #[.int .i64 t1.kind, .int .i64 t1.n, .string t1.name, .slice A1 t1.args.length c1] ∧ Blk w' r2 47 #[.int .i64 t2.kind, .int .i64 t2.n, .string t2.name, .slice A2 t2.args.length c2]) w4 := ⟨PE4.out.u, PE4.out.b1, PE4.out.b2⟩
          have HR4 := Lib.hid hr4
          have HL4 := Lib.hid hl4
          have HM4 := Lib.hid hm4
          have HB4 := Lib.hid hb4
          clear hr4 hl4 hm4 hb4 hS4
          refine hK _ _ (fun _ => hT4) ?_
          (try simp only [Act.put, List.setIfInBounds_toArray, List.set_cons_zero, List.set_cons_succ])
          refine wpAnyN_one (i := 9) (by kernel_rfl) rfl (fun K hK => ?_)
          simp only [List.getElem_toArray, List.getElem_cons_zero, List.getElem_cons_succ]
          go_simp
          refine hK _ _ (fun _ => hT4) ?_
          (try simp only [Act.put, List.setIfInBounds_toArray, List.set_cons_zero, List.set_cons_succ])
          refine wpAnyN_one (i := 10) (by kernel_rfl) rfl (fun K hK => ?_)
          simp only [List.getElem_toArray, List.getElem_cons_zero, List.getElem_cons_succ]
          go_simp
          refine hK _ _ (fun _ => hT4) ?_
          (try simp only [Act.put, List.setIfInBounds_toArray, List.set_cons_zero, List.set_cons_succ])
          have m0 := PE4.out.u.cell 0
          have fm0 := PE4.out.u.frozen 0
          have m1 := PE4.out.u.cell 1
          have fm1 := PE4.out.u.frozen 1
          have lm := PE4.out.u.lt
          simp at m0 m1
          refine wpAnyN_one (i := 11) (by kernel_rfl) rfl (fun K hK => ?_)
          simp only [List.getElem_toArray, List.getElem_cons_zero, List.getElem_cons_succ]
          go_simp
          refine hK _ _ (fun h => absurd h (by decide)) ?_
          (try simp only [Act.put, List.setIfInBounds_toArray, List.set_cons_zero, List.set_cons_succ])
          refine wpAnyN_done (by kernel_rfl) ?_ _
          clear m0 m1 fm0 fm1 lm
          obtain ⟨W4, HW4⟩ : ∃ X, Hid (X = w4.setCell ⟨qu, 0, none⟩ (.slice A4 bs4.length c4)) := ⟨_, rfl⟩
          rw [← HW4.out]
          have hu4 : Upd qu w4 W4 := by rw [HW4.out]; exact (Upd.refl _ _).set 0 _
          have hk4 : Blk W4 qu 85 #[.slice A4 bs4.length c4, .int .i64 (((n + 1 : Nat)) : Int)] := by rw [HW4.out]; simpa using PE4.out.u.set_ 0 (.slice A4 bs4.length c4)
          have PW4 := Lib.hid (PD4.out.bind PD4.out.a1 PD4.out.o1 (fun _ => HLS.out) HB4.out HR4.out HL4.out HM4.out hu4 hk4 (by have := HLB.out; omega))
          clear hu4 hk4 HW4 hT4 PE4 PD4 HR4 HL4 HM4 HB4
          go_wp2_with fail
          go_ret
          exact PW4.out.ret 0 (by omega) (by omega) (fun _ h1 h2 => absurd (HF1.out.2.2 HKA.out) h1)
        have hg3 : decide (t1.n < t2.n) = false := by simp; omega
        clear hls hgt
        go_wp2_with fail
        go_ret
        exact PW2.out.ret 0 (by omega) (by omega) (fun _ h1 h2 => absurd (HF1.out.2.2 HKA.out) h1)
      · have hkbb : (t2.kind == 0) = false := by simp [hkb]
        have HKB := Lib.hid hkb
        clear hkb
        go_upto_region 15 with fail
        obtain ⟨D5, hD5⟩ : ∃ X, Hid (X = W2.drew) := ⟨_, rfl⟩
        have hd5 : Below W2.heap.size W2 D5 := by rw [hD5.out]; exact bDrewN (Below.refl _ _) 1
        have PD5 := Lib.hid (PW2.out.next hd5)
        have hS5 : (fun w' => Blk w' qu 85 #[.slice A bs.length c, .int .i64 (((n + 1 : Nat)) : Int)] ∧ Blk w' r1 47 #[.int .i64 t1.kind, .int .i64 t1.n, .string t1.name, .slice A1 t1.args.length c1] ∧ Blk w' r2 47 #[.int .i64 t2.kind, .int .i64 t2.n, .string t2.name, .slice A2 t2.args.length c2]) D5 := ⟨PD5.out.u, PD5.out.b1, PD5.out.b2⟩
        refine wp_region_N (fun w' => Blk w' qu 85 #[.slice A bs.length c, .int .i64 (((n + 1 : Nat)) : Int)] ∧ Blk w' r1 47 #[.int .i64 t1.kind, .int .i64 t1.n, .string t1.name, .slice A1 t1.args.length c1] ∧ Blk w' r2 47 #[.int .i64 t2.kind, .int .i64 t2.n, .string t2.name, .slice A2 t2.args.length c2]) (fun _ => true) (by kernel_rfl) ?_
        rw [← hD5.out]
        clear hD5 hd5
        refine wpAnyN_take (i := 0) (v := ?v27) rfl (by kernel_rfl) (by kernel_rfl) (by kernel_rfl) (by kernel_rfl) (fun _ _ _ h => h) (Or.inl ⟨by rfl, ?hy27⟩) (by assumption) ?_
        case hy27 => intro w hSw; obtain ⟨b0, b1, b2⟩ := hSw; have m0 := b0.cell 0; have m1 := b0.cell 1; have p0 := b1.cell 0; have p1 := b1.cell 1; have p2 := b1.cell 2; have p3 := b1.cell 3; have s0 := b2.cell 0; have s1 := b2.cell 1; have s2 := b2.cell 2; have s3 := b2.cell 3; simp at m0 m1 p0 p1 p2 p3 s0 s1 s2 s3; go_simp; try with_reducible rfl
        simp only [Act.put, List.getElem_toArray, List.getElem_cons_zero, List.setIfInBounds_toArray, List.set_cons_zero, List.set_cons_succ]
        refine wpAnyN_take (i := 1) (v := ?v28) rfl (by kernel_rfl) (by kernel_rfl) (by kernel_rfl) (by kernel_rfl) (fun _ _ _ h => h) (Or.inl ⟨by rfl, ?hy28⟩) (by assumption) ?_
        case hy28 => intro w hSw; obtain ⟨b0, b1, b2⟩ := hSw; have m0 := b0.cell 0; have m1 := b0.cell 1; have p0 := b1.cell 0; have p1 := b1.cell 1; have p2 := b1.cell 2; have p3 := b1.cell 3; have s0 := b2.cell 0; have s1 := b2.cell 1; have s2 := b2.cell 2; have s3 := b2.cell 3; simp at m0 m1 p0 p1 p2 p3 s0 s1 s2 s3; go_simp; try with_reducible rfl
        simp only [Act.put, List.getElem_toArray, List.getElem_cons_zero, List.getElem_cons_succ, List.setIfInBounds_toArray, List.set_cons_zero, List.set_cons_succ]
        refine wpAnyN_take (i := 2) (v := ?v29) rfl (by kernel_rfl) (by kernel_rfl) (by kernel_rfl) (by kernel_rfl) (fun _ _ _ h => h) (Or.inl ⟨by rfl, ?hy29⟩) (by assumption) ?_
        case hy29 => intro w hSw; obtain ⟨b0, b1, b2⟩ := hSw; have m0 := b0.cell 0; have m1 := b0.cell 1; have p0 := b1.cell 0; have p1 := b1.cell 1; have p2 := b1.cell 2; have p3 := b1.cell 3; have s0 := b2.cell 0; have s1 := b2.cell 1; have s2 := b2.cell 2; have s3 := b2.cell 3; simp at m0 m1 p0 p1 p2 p3 s0 s1 s2 s3; go_simp; try with_reducible rfl
        simp only [Act.put, List.getElem_toArray, List.getElem_cons_zero, List.getElem_cons_succ, List.setIfInBounds_toArray, List.set_cons_zero, List.set_cons_succ]
        refine wpAnyN_take (i := 3) (v := ?v30) rfl (by kernel_rfl) (by kernel_rfl) (by kernel_rfl) (by kernel_rfl) (fun _ _ _ h => h) (Or.inl ⟨by rfl, ?hy30⟩) (by assumption) ?_
        case hy30 => intro w hSw; obtain ⟨b0, b1, b2⟩ := hSw; have m0 := b0.cell 0; have m1 := b0.cell 1; have p0 := b1.cell 0; have p1 := b1.cell 1; have p2 := b1.cell 2; have p3 := b1.cell 3; have s0 := b2.cell 0; have s1 := b2.cell 1; have s2 := b2.cell 2; have s3 := b2.cell 3; simp at m0 m1 p0 p1 p2 p3 s0 s1 s2 s3; go_simp; try with_reducible rfl
        simp only [Act.put, List.getElem_toArray, List.getElem_cons_zero, List.getElem_cons_succ, List.setIfInBounds_toArray, List.set_cons_zero, List.set_cons_succ]
        refine wpAnyN_take (i := 4) (v := ?v31) rfl (by kernel_rfl) (by kernel_rfl) (by kernel_rfl) (by kernel_rfl) (fun _ _ _ h => h) (Or.inl ⟨by rfl, ?hy31⟩) (by assumption) ?_
        case hy31 => intro w hSw; obtain ⟨b0, b1, b2⟩ := hSw; have m0 := b0.cell 0; have m1 := b0.cell 1; have p0 := b1.cell 0; have p1 := b1.cell 1; have p2 := b1.cell 2; have p3 := b1.cell 3; have s0 := b2.cell 0; have s1 := b2.cell 1; have s2 := b2.cell 2; have s3 := b2.cell 3; simp at m0 m1 p0 p1 p2 p3 s0 s1 s2 s3; go_simp; try with_reducible rfl
        simp only [Act.put, List.getElem_toArray, List.getElem_cons_zero, List.getElem_cons_succ, List.setIfInBounds_toArray, List.set_cons_zero, List.set_cons_succ]
        refine wpAnyN_take (i := 5) (v := ?v32) rfl (by kernel_rfl) (by kernel_rfl) (by kernel_rfl) (by kernel_rfl) (fun _ _ _ h => h) (Or.inl ⟨by rfl, ?hy32⟩) (by assumption) ?_
        case hy32 => intro w hSw; obtain ⟨b0, b1, b2⟩ := hSw; have m0 := b0.cell 0; have m1 := b0.cell 1; have p0 := b1.cell 0; have p1 := b1.cell 1; have p2 := b1.cell 2; have p3 := b1.cell 3; have s0 := b2.cell 0; have s1 := b2.cell 1; have s2 := b2.cell 2; have s3 := b2.cell 3; simp at m0 m1 p0 p1 p2 p3 s0 s1 s2 s3; go_simp; try with_reducible rfl
        simp only [Act.put, List.getElem_toArray, List.getElem_cons_zero, List.getElem_cons_succ, List.setIfInBounds_toArray, List.set_cons_zero, List.set_cons_succ]
        refine wpAnyN_take (i := 6) (v := ?v33) rfl (by kernel_rfl) (by kernel_rfl) (by kernel_rfl) (by kernel_rfl) (fun _ _ _ h => h) (Or.inl ⟨by rfl, ?hy33⟩) (by assumption) ?_
        case hy33 => intro w hSw; obtain ⟨b0, b1, b2⟩ := hSw; have m0 := b0.cell 0; have m1 := b0.cell 1; have p0 := b1.cell 0; have p1 := b1.cell 1; have p2 := b1.cell 2; have p3 := b1.cell 3; have s0 := b2.cell 0; have s1 := b2.cell 1; have s2 := b2.cell 2; have s3 := b2.cell 3; simp at m0 m1 p0 p1 p2 p3 s0 s1 s2 s3; go_simp; try with_reducible rfl
        simp only [Act.put, List.getElem_toArray, List.getElem_cons_zero, List.getElem_cons_succ, List.setIfInBounds_toArray, List.set_cons_zero, List.set_cons_succ]
        refine wpAnyN_one (i := 7) (by kernel_rfl) rfl (fun K hK => ?_)
        simp only [List.getElem_toArray, List.getElem_cons_zero, List.getElem_cons_succ]
        go_simp
        refine (within_any bs t1.n t2 A2 c2 D5 (PD5.out.bi.keep (fun _ _ => rfl) (fun b h => h.1)) (by have := PD5.out.len; omega) PD5.out.g (PD5.out.a2.keep (fun _ _ => rfl) (fun b h => h.1)) PD5.out.o2).mono ?_
        rintro e w5 ⟨⟨bb, rfl⟩, hb5⟩
        have PE5 := Lib.hid (PD5.out.next hb5)
        have hT5 : (fun w' => Blk w' qu 85 #[.slice A bs.length c, .int .i64 (((n + 1 : Nat)) : Int)] ∧ Blk w' r1 47 #[.int .i64 t1.kind, .int .i64 t1.n, .string t1.name, .slice A1 t1.args.length c1] ∧ Blk w' r2 47 #[.int .i64 t2.kind, .int .i64 t2.n, .string t2.name, .slice A2 t2.args.length c2]) w5 := ⟨PE5.out.u, PE5.out.b1, PE5.out.b2⟩
        clear hb5 hS5
        refine hK _ _ (fun _ => hT5) ?_
        (try simp only [Act.put, List.setIfInBounds_toArray, List.set_cons_zero, List.set_cons_succ])
        refine wpAnyN_done (by kernel_rfl) ?_ _
        cases bb
        · go_upto_region 17 with fail
          obtain ⟨D6, hD6⟩ : ∃ X, Hid (X = w5.drew) := ⟨_, rfl⟩
          have hd6 : Below w5.heap.size w5 D6 := by rw [hD6.out]; exact bDrewN (Below.refl _ _) 1
          have PD6 := Lib.hid (PE5.out.next hd6)
          have hS6 : (fun w' => Blk w' qu 85 #[.slice A bs.length c, .int .i64 (((n + 1 : Nat)) : Int)] ∧ Blk w' r1 47 #[.int .i64 t1.kind, .int .i64 t1.n, .string t1.name, .slice A1 t1.args.length c1] ∧ Blk w' r2 47 #[.int .i64 t2.kind, .int .i64 t2.n, .string t2.name, .slice A2 t2.args.length c2]) D6 := ⟨PD6.out.u, PD6.out.b1, PD6.out.b2⟩
          refine wp_region_N (fun w' => Blk w' qu 85 #[.slice A bs.length c, .int .i64 (((n + 1 : Nat)) : Int)] ∧ Blk w' r1 47 #[.int .i64 t1.kind, .int .i64 t1.n, .string t1.name, .slice A1 t1.args.length c1] ∧ Blk w' r2 47 #[.int .i64 t2.kind, .int .i64 t2.n, .string t2.name, .slice A2 t2.args.length c2]) (fun i => decide (i ≠ 11)) (by kernel_rfl) ?_
          rw [← hD6.out]
          clear hD6 hd6
          refine wpAnyN_take (i := 0) (v := ?v34) rfl (by kernel_rfl) (by kernel_rfl) (by kernel_rfl) (by kernel_rfl) (fun _ _ _ h => h) (Or.inl ⟨by rfl, ?hy34⟩) (by assumption) ?_
          case hy34 => intro w hSw; obtain ⟨b0, b1, b2⟩ := hSw; have m0 := b0.cell 0; have m1 := b0.cell 1; have p0 := b1.cell 0; have p1 := b1.cell 1; have p2 := b1.cell 2; have p3 := b1.cell 3; have s0 := b2.cell 0; have s1 := b2.cell 1; have s2 := b2.cell 2; have s3 := b2.cell 3; simp at m0 m1 p0 p1 p2 p3 s0 s1 s2 s3; go_simp; try with_reducible rfl
          simp only [Act.put, List.getElem_toArray, List.getElem_cons_zero, List.setIfInBounds_toArray, List.set_cons_zero, List.set_cons_succ]
          refine wpAnyN_take (i := 1) (v := ?v35) rfl (by kernel_rfl) (by kernel_rfl) (by kernel_rfl) (by kernel_rfl) (fun _ _ _ h => h) (Or.inl ⟨by rfl, ?hy35⟩) (by assumption) ?_
          case hy35 => intro w hSw; obtain ⟨b0, b1, b2⟩ := hSw; have m0 := b0.cell 0; have m1 := b0.cell 1; have p0 := b1.cell 0; have p1 := b1.cell 1; have p2 := b1.cell 2; have p3 := b1.cell 3; have s0 := b2.cell 0; have s1 := b2.cell 1; have s2 := b2.cell 2; have s3 := b2.cell 3; simp at m0 m1 p0 p1 p2 p3 s0 s1 s2 s3; go_simp; try with_reducible rfl
          simp only [Act.put, List.getElem_toArray, List.getElem_cons_zero, List.getElem_cons_succ, List.setIfInBounds_toArray, List.set_cons_zero, List.set_cons_succ]
          refine wpAnyN_take (i := 2) (v := ?v36) rfl (by kernel_rfl) (by kernel_rfl) (by kernel_rfl) (by kernel_rfl) (fun _ _ _ h => h) (Or.inl ⟨by rfl, ?hy36⟩) (by assumption) ?_
          case hy36 => intro w hSw; obtain ⟨b0, b1, b2⟩ := hSw; have m0 := b0.cell 0; have m1 := b0.cell 1; have p0 := b1.cell 0; have p1 := b1.cell 1; have p2 := b1.cell 2; have p3 := b1.cell 3; have s0 := b2.cell 0; have s1 := b2.cell 1; have s2 := b2.cell 2; have s3 := b2.cell 3; simp at m0 m1 p0 p1 p2 p3 s0 s1 s2 s3; go_simp; try with_reducible rfl
          simp only [Act.put, List.getElem_toArray, List.getElem_cons_zero, List.getElem_cons_succ, List.setIfInBounds_toArray, List.set_cons_zero, List.set_cons_succ]
          refine wpAnyN_take (i := 3) (v := ?v37) rfl (by kernel_rfl) (by kernel_rfl) (by kernel_rfl) (by kernel_rfl) (fun _ _ _ h => h) (Or.inl ⟨by rfl, ?hy37⟩) (by assumption) ?_
          case hy37 => intro w hSw; obtain ⟨b0, b1, b2⟩ := hSw; have m0 := b0.cell 0; have m1 := b0.cell 1; have p0 := b1.cell 0; have p1 := b1.cell 1; have p2 := b1.cell 2; have p3 := b1.cell 3; have s0 := b2.cell 0; have s1 := b2.cell 1; have s2 := b2.cell 2; have s3 := b2.cell 3; simp at m0 m1 p0 p1 p2 p3 s0 s1 s2 s3; go_simp; try with_reducible rfl
          simp only [Act.put, List.getElem_toArray, List.getElem_cons_zero, List.getElem_cons_succ, List.setIfInBounds_toArray, List.set_cons_zero, List.set_cons_succ]
          refine wpAnyN_take (i := 4) (v := ?v38) rfl (by kernel_rfl) (by kernel_rfl) (by kernel_rfl) (by kernel_rfl) (fun _ _ _ h => h) (Or.inl ⟨by rfl, ?hy38⟩) (by assumption) ?_
          case hy38 => intro w hSw; obtain ⟨b0, b1, b2⟩ := hSw; have m0 := b0.cell 0; have m1 := b0.cell 1; have p0 := b1.cell 0; have p1 := b1.cell 1; have p2 := b1.cell 2; have p3 := b1.cell 3; have s0 := b2.cell 0; have s1 := b2.cell 1; have s2 := b2.cell 2; have s3 := b2.cell 3; simp at m0 m1 p0 p1 p2 p3 s0 s1 s2 s3; go_simp; try with_reducible rfl
          simp only [Act.put, List.getElem_toArray, List.getElem_cons_zero, List.getElem_cons_succ, List.setIfInBounds_toArray, List.set_cons_zero, List.set_cons_succ]
          refine wpAnyN_take (i := 5) (v := ?v39) rfl (by kernel_rfl) (by kernel_rfl) (by kernel_rfl) (by kernel_rfl) (fun _ _ _ h => h) (Or.inl ⟨by rfl, ?hy39⟩) (by assumption) ?_
          case hy39 => intro w hSw; obtain ⟨b0, b1, b2⟩ := hSw; have m0 := b0.cell 0; have m1 := b0.cell 1; have p0 := b1.cell 0; have p1 := b1.cell 1; have p2 := b1.cell 2; have p3 := b1.cell 3; have s0 := b2.cell 0; have s1 := b2.cell 1; have s2 := b2.cell 2; have s3 := b2.cell 3; simp at m0 m1 p0 p1 p2 p3 s0 s1 s2 s3; go_simp; try with_reducible rfl
          simp only [Act.put, List.getElem_toArray, List.getElem_cons_zero, List.getElem_cons_succ, List.setIfInBounds_toArray, List.set_cons_zero, List.set_cons_succ]
          refine wpAnyN_take (i := 6) (v := ?v40) rfl (by kernel_rfl) (by kernel_rfl) (by kernel_rfl) (by kernel_rfl) (fun _ _ _ h => h) (Or.inl ⟨by rfl, ?hy40⟩) (by assumption) ?_
          case hy40 => intro w hSw; obtain ⟨b0, b1, b2⟩ := hSw; have m0 := b0.cell 0; have m1 := b0.cell 1; have p0 := b1.cell 0; have p1 := b1.cell 1; have p2 := b1.cell 2; have p3 := b1.cell 3; have s0 := b2.cell 0; have s1 := b2.cell 1; have s2 := b2.cell 2; have s3 := b2.cell 3; simp at m0 m1 p0 p1 p2 p3 s0 s1 s2 s3; go_simp; try with_reducible rfl
          simp only [Act.put, List.getElem_toArray, List.getElem_cons_zero, List.getElem_cons_succ, List.setIfInBounds_toArray, List.set_cons_zero, List.set_cons_succ]
          refine wpAnyN_take (i := 7) (v := ?v41) rfl (by kernel_rfl) (by kernel_rfl) (by kernel_rfl) (by kernel_rfl) (fun _ _ _ h => h) (Or.inl ⟨by rfl, ?hy41⟩) (by assumption) ?_
          case hy41 => intro w hSw; obtain ⟨b0, b1, b2⟩ := hSw; have m0 := b0.cell 0; have m1 := b0.cell 1; have p0 := b1.cell 0; have p1 := b1.cell 1; have p2 := b1.cell 2; have p3 := b1.cell 3; have s0 := b2.cell 0; have s1 := b2.cell 1; have s2 := b2.cell 2; have s3 := b2.cell 3; simp at m0 m1 p0 p1 p2 p3 s0 s1 s2 s3; go_simp; try with_reducible rfl
          simp only [Act.put, List.getElem_toArray, List.getElem_cons_zero, List.getElem_cons_succ, List.setIfInBounds_toArray, List.set_cons_zero, List.set_cons_succ]
          refine wpAnyN_one (i := 8) (by kernel_rfl) rfl (fun K hK => ?_)
          simp only [List.getElem_toArray, List.getElem_cons_zero, List.getElem_cons_succ]
          go_simp
          refine (bound_any bs t1.n t2 A2 c2 D6 (PD6.out.bi.keep (fun _ _ => rfl) (fun b h => h.1)) (by have := PD6.out.len; omega)).mono ?_
          rintro e w6 ⟨⟨A6, c6, bs6, rfl, hr6, hl6, hm6⟩, hb6⟩
          have PE6 := Lib.hid (PD6.out.next hb6)
          have hT6 : (fun w' => Blk w' qu 85 #[.slice A bs.length c, .int .i64 (((n + 1 : Nat)) : Int)] ∧ Blk w' r1 47 #[.int .i64 t1.kind, .int .i64 t1.n, .string t1.name, .slice A1 t1.args.length c1] ∧ Blk w' r2 47 #[.int .i64 t2.kind, .int .i64 t2.n, .string t2.name, .slice A2 t2.args.length c2]) w6 := ⟨PE6.out.u, PE6.out.b1, PE6.out.b2⟩
          have HR6 := Lib.hid hr6
          have HL6 := Lib.hid hl6
          have HM6 := Lib.hid hm6
          have HB6 := Lib.hid hb6
          clear hr6 hl6 hm6 hb6 hS6
          refine hK _ _ (fun _ => hT6) ?_
          (try simp only [Act.put, List.setIfInBounds_toArray, List.set_cons_zero, List.set_cons_succ])
          refine wpAnyN_one (i := 9) (by kernel_rfl) rfl (fun K hK => ?_)
          simp only [List.getElem_toArray, List.getElem_cons_zero, List.getElem_cons_succ]
          go_simp
          refine hK _ _ (fun _ => hT6) ?_
          (try simp only [Act.put, List.setIfInBounds_toArray, List.set_cons_zero, List.set_cons_succ])
          refine wpAnyN_one (i := 10) (by kernel_rfl) rfl (fun K hK => ?_)
          simp only [List.getElem_toArray, List.getElem_cons_zero, List.getElem_cons_succ]
          go_simp
          refine hK _ _ (fun _ => hT6) ?_
          (try simp only [Act.put, List.setIfInBounds_toArray, List.set_cons_zero, List.set_cons_succ])
          have m0 := PE6.out.u.cell 0
          have fm0 := PE6.out.u.frozen 0
          have m1 := PE6.out.u.cell 1
          have fm1 := PE6.out.u.frozen 1
          have lm := PE6.out.u.lt
          simp at m0 m1
          refine wpAnyN_one (i := 11) (by kernel_rfl) rfl (fun K hK => ?_)
          simp only [List.getElem_toArray, List.getElem_cons_zero, List.getElem_cons_succ]
          go_simp
          refine hK _ _ (fun h => absurd h (by decide)) ?_
          (try simp only [Act.put, List.setIfInBounds_toArray, List.set_cons_zero, List.set_cons_succ])
          refine wpAnyN_done (by kernel_rfl) ?_ _
          clear m0 m1 fm0 fm1 lm
          obtain ⟨W6, HW6⟩ : ∃ X, Hid (X = w6.setCell ⟨qu, 0, none⟩ (.slice A6 bs6.length c6)) := ⟨_, rfl⟩
          rw [← HW6.out]
          have hu6 : Upd qu w6 W6 := by rw [HW6.out]; exact (Upd.refl _ _).set 0 _
          have hk6 : Blk W6 qu 85 #[.slice A6 bs6.length c6, .int .i64 (((n + 1 : Nat)) : Int)] := by rw [HW6.out]; simpa using PE6.out.u.set_ 0 (.slice A6 bs6.length c6)
          have PW6 := Lib.hid (PD6.out.bind PD6.out.a2 PD6.out.o2 (fun h => absurd h HKB.out) HB6.out HR6.out HL6.out HM6.out hu6 hk6 (by have := HLB.out; omega))
          clear hu6 hk6 HW6 hT6 PE6 PD6 HR6 HL6 HM6 HB6
          go_wp2_with fail
          go_ret
          exact PW6.out.ret 0 (by omega) (by omega) (fun _ h1 h2 => absurd (HF1.out.2.2 HKA.out) h1)
        · go_wp2_with fail
          go_ret
          exact PE5.out.ret 9 (by omega) (by omega) (fun h => absurd h (by decide))
    · have hkab : (t1.kind == 0) = false := by simp [hka]
      have HKA := Lib.hid hka
      clear hka
      by_cases hkb : t2.kind = 0
      · have hkbb : (t2.kind == 0) = true := by simp [hkb]
        have HKB := Lib.hid hkb
        clear hkb
        have hn3 : r1 ≠ r2 := PW2.out.n3
        go_upto_region 14 with fail
        obtain ⟨WS, HWS⟩ : ∃ X', Hid (X' = ((((W2.setCell ⟨r1, 0, none⟩ (.int .i64 t2.kind)).setCell ⟨r1, 1, none⟩ (.int .i64 t2.n)).setCell ⟨r1, 2, none⟩ (.string t2.name)).setCell ⟨r1, 3, none⟩ (.slice A2 t2.args.length c2))) := ⟨_, rfl⟩
        obtain ⟨WT, HWT⟩ : ∃ X', Hid (X' = ((((WS.setCell ⟨r2, 0, none⟩ (.int .i64 t1.kind)).setCell ⟨r2, 1, none⟩ (.int .i64 t1.n)).setCell ⟨r2, 2, none⟩ (.string t1.name)).setCell ⟨r2, 3, none⟩ (.slice A1 t1.args.length c1))) := ⟨_, rfl⟩
        rw [← HWS.out, ← HWT.out]
        have hu1 : Upd r1 W2 WS := by rw [HWS.out]; exact ((((Upd.refl _ _).set 0 _).set 1 _).set 2 _).set 3 _
        have hu2 : Upd r2 WS WT := by rw [HWT.out]; exact ((((Upd.refl _ _).set 0 _).set 1 _).set 2 _).set 3 _
        have hb1 : Blk WS r1 47 #[.int .i64 t2.kind, .int .i64 t2.n, .string t2.name, .slice A2 t2.args.length c2] := by rw [HWS.out]; simpa using ((((PW2.out.b1.set_ 0 (.int .i64 t2.kind)).set_ 1 (.int .i64 t2.n)).set_ 2 (.string t2.name)).set_ 3 (.slice A2 t2.args.length c2))
        have hb2' : Blk WS r2 47 #[.int .i64 t2.kind, .int .i64 t2.n, .string t2.name, .slice A2 t2.args.length c2] := (hu1.block r2 (Ne.symm hn3)).trans PW2.out.b2
        have hb2 : Blk WT r2 47 #[.int .i64 t1.kind, .int .i64 t1.n, .string t1.name, .slice A1 t1.args.length c1] := by rw [HWT.out]; simpa using ((((hb2'.set_ 0 (.int .i64 t1.kind)).set_ 1 (.int .i64 t1.n)).set_ 2 (.string t1.name)).set_ 3 (.slice A1 t1.args.length c1))
        have PT := Lib.hid (PW2.out.cross hu1 hb1 hu2 hb2)
        clear hu1 hu2 hb1 hb2 hb2' HWS HWT hn3 
        clear m0 m1 fm0 fm1 lm p0 p1 p2 p3 fp0 fp1 fp2 fp3 lp s0 s1 s2 s3 fs0 fs1 fs2 fs3 ls
        have m0 := PT.out.u.cell 0
        have fm0 := PT.out.u.frozen 0
        have m1 := PT.out.u.cell 1
        have fm1 := PT.out.u.frozen 1
        have lm := PT.out.u.lt
        simp at m0 m1
        have p0 := PT.out.b1.cell 0
        have fp0 := PT.out.b1.frozen 0
        have p1 := PT.out.b1.cell 1
        have fp1 := PT.out.b1.frozen 1
        have p2 := PT.out.b1.cell 2
        have fp2 := PT.out.b1.frozen 2
        have p3 := PT.out.b1.cell 3
        have fp3 := PT.out.b1.frozen 3
        have lp := PT.out.b1.lt
        simp at p0 p1 p2 p3
        have s0 := PT.out.b2.cell 0
        have fs0 := PT.out.b2.frozen 0
        have s1 := PT.out.b2.cell 1
        have fs1 := PT.out.b2.frozen 1
        have s2 := PT.out.b2.cell 2
        have fs2 := PT.out.b2.frozen 2
        have s3 := PT.out.b2.cell 3
        have fs3 := PT.out.b2.frozen 3
        have ls := PT.out.b2.lt
        simp at s0 s1 s2 s3
        go_upto_region 15 with fail
        obtain ⟨D7, hD7⟩ : ∃ X, Hid (X = WT.drew) := ⟨_, rfl⟩
        have hd7 : Below WT.heap.size WT D7 := by rw [hD7.out]; exact bDrewN (Below.refl _ _) 1
        have PD7 := Lib.hid (PT.out.next hd7)
        have hS7 : (fun w' => Blk w' qu 85 #[.slice A bs.length c, .int .i64 (((n + 1 : Nat)) : Int)] ∧ Blk w' r1 47 #[.int .i64 t2.kind, .int .i64 t2.n, .string t2.name, .slice A2 t2.args.length c2] ∧ Blk w' r2 47 #[.int .i64 t1.kind, .int .i64 t1.n, .string t1.name, .slice A1 t1.args.length c1]) D7 := ⟨PD7.out.u, PD7.out.b1, PD7.out.b2⟩
        refine wp_region_N (fun w' => Blk w' qu 85 #[.slice A bs.length c, .int .i64 (((n + 1 : Nat)) : Int)] ∧ Blk w' r1 47 #[.int .i64 t2.kind, .int .i64 t2.n, .string t2.name, .slice A2 t2.args.length c2] ∧ Blk w' r2 47 #[.int .i64 t1.kind, .int .i64 t1.n, .string t1.name, .slice A1 t1.args.length c1]) (fun _ => true) (by kernel_rfl) ?_
        rw [← hD7.out]
        clear hD7 hd7
        refine wpAnyN_take (i := 0) (v := ?v42) rfl (by kernel_rfl) (by kernel_rfl) (by kernel_rfl) (by kernel_rfl) (fun _ _ _ h => h) (Or.inl ⟨by rfl, ?hy42⟩) (by assumption) ?_
        case hy42 => intro w hSw; obtain ⟨b0, b1, b2⟩ := hSw; have m0 := b0.cell 0; have m1 := b0.cell 1; have p0 := b1.cell 0; have p1 := b1.cell 1; have p2 := b1.cell 2; have p3 := b1.cell 3; have s0 := b2.cell 0; have s1 := b2.cell 1; have s2 := b2.cell 2; have s3 := b2.cell 3; simp at m0 m1 p0 p1 p2 p3 s0 s1 s2 s3; go_simp; try with_reducible rfl
        simp only [Act.put, List.getElem_toArray, List.getElem_cons_zero, List.setIfInBounds_toArray, List.set_cons_zero, List.set_cons_succ]
        refine wpAnyN_take (i := 1) (v := ?v43) rfl (by kernel_rfl) (by kernel_rfl) (by kernel_rfl) (by kernel_rfl) (fun _ _ _ h => h) (Or.inl ⟨by rfl, ?hy43⟩) (by assumption) ?_
        case hy43 => intro w hSw; obtain ⟨b0, b1, b2⟩ := hSw; have m0 := b0.cell 0; have m1 := b0.cell 1; have p0 := b1.cell 0; have p1 := b1.cell 1; have p2 := b1.cell 2; have p3 := b1.cell 3; have s0 := b2.cell 0; have s1 := b2.cell 1; have s2 := b2.cell 2; have s3 := b2.cell 3; simp at m0 m1 p0 p1 p2 p3 s0 s1 s2 s3; go_simp; try with_reducible rfl
        simp only [Act.put, List.getElem_toArray, List.getElem_cons_zero, List.getElem_cons_succ, List.setIfInBounds_toArray, List.set_cons_zero, List.set_cons_succ]
        refine wpAnyN_take (i := 2) (v := ?v44) rfl (by kernel_rfl) (by kernel_rfl) (by kernel_rfl) (by kernel_rfl) (fun _ _ _ h => h) (Or.inl ⟨by rfl, ?hy44⟩) (by assumption) ?_
        case hy44 => intro w hSw; obtain ⟨b0, b1, b2⟩ := hSw; have m0 := b0.cell 0; have m1 := b0.cell 1; have p0 := b1.cell 0; have p1 := b1.cell 1; have p2 := b1.cell 2; have p3 := b1.cell 3; have s0 := b2.cell 0; have s1 := b2.cell 1; have s2 := b2.cell 2; have s3 := b2.cell 3; simp at m0 m1 p0 p1 p2 p3 s0 s1 s2 s3; go_simp; try with_reducible rfl
        simp only [Act.put, List.getElem_toArray, List.getElem_cons_zero, List.getElem_cons_succ, List.setIfInBounds_toArray, List.set_cons_zero, List.set_cons_succ]
        refine wpAnyN_take (i := 3) (v := ?v45) rfl (by kernel_rfl) (by kernel_rfl) (by kernel_rfl) (by kernel_rfl) (fun _ _ _ h => h) (Or.inl ⟨by rfl, ?hy45⟩) (by assumption) ?_
        case hy45 => intro w hSw; obtain ⟨b0, b1, b2⟩ := hSw; have m0 := b0.cell 0; have m1 := b0.cell 1; have p0 := b1.cell 0; have p1 := b1.cell 1; have p2 := b1.cell 2; have p3 := b1.cell 3; have s0 := b2.cell 0; have s1 := b2.cell 1; have s2 := b2.cell 2; have s3 := b2.cell 3; simp at m0 m1 p0 p1 p2 p3 s0 s1 s2 s3; go_simp; try with_reducible rfl
        simp only [Act.put, List.getElem_toArray, List.getElem_cons_zero, List.getElem_cons_succ, List.setIfInBounds_toArray, List.set_cons_zero, List.set_cons_succ]
        refine wpAnyN_take (i := 4) (v := ?v46) rfl (by kernel_rfl) (by kernel_rfl) (by kernel_rfl) (by kernel_rfl) (fun _ _ _ h => h) (Or.inl ⟨by rfl, ?hy46⟩) (by assumption) ?_
        case hy46 => intro w hSw; obtain ⟨b0, b1, b2⟩ := hSw; have m0 := b0.cell 0; have m1 := b0.cell 1; have p0 := b1.cell 0; have p1 := b1.cell 1; have p2 := b1.cell 2; have p3 := b1.cell 3; have s0 := b2.cell 0; have s1 := b2.cell 1; have s2 := b2.cell 2; have s3 := b2.cell 3; simp at m0 m1 p0 p1 p2 p3 s0 s1 s2 s3; go_simp; try with_reducible rfl
        simp only [Act.put, List.getElem_toArray, List.getElem_cons_zero, List.getElem_cons_succ, List.setIfInBounds_toArray, List.set_cons_zero, List.set_cons_succ]
        refine wpAnyN_take (i := 5) (v := ?v47) rfl (by kernel_rfl) (by kernel_rfl) (by kernel_rfl) (by kernel_rfl) (fun _ _ _ h => h) (Or.inl ⟨by rfl, ?hy47⟩) (by assumption) ?_
        case hy47 => intro w hSw; obtain ⟨b0, b1, b2⟩ := hSw; have m0 := b0.cell 0; have m1 := b0.cell 1; have p0 := b1.cell 0; have p1 := b1.cell 1; have p2 := b1.cell 2; have p3 := b1.cell 3; have s0 := b2.cell 0; have s1 := b2.cell 1; have s2 := b2.cell 2; have s3 := b2.cell 3; simp at m0 m1 p0 p1 p2 p3 s0 s1 s2 s3; go_simp; try with_reducible rfl
        simp only [Act.put, List.getElem_toArray, List.getElem_cons_zero, List.getElem_cons_succ, List.setIfInBounds_toArray, List.set_cons_zero, List.set_cons_succ]
        refine wpAnyN_take (i := 6) (v := ?v48) rfl (by kernel_rfl) (by kernel_rfl) (by kernel_rfl) (by kernel_rfl) (fun _ _ _ h => h) (Or.inl ⟨by rfl, ?hy48⟩) (by assumption) ?_
        case hy48 => intro w hSw; obtain ⟨b0, b1, b2⟩ := hSw; have m0 := b0.cell 0; have m1 := b0.cell 1; have p0 := b1.cell 0; have p1 := b1.cell 1; have p2 := b1.cell 2; have p3 := b1.cell 3; have s0 := b2.cell 0; have s1 := b2.cell 1; have s2 := b2.cell 2; have s3 := b2.cell 3; simp at m0 m1 p0 p1 p2 p3 s0 s1 s2 s3; go_simp; try with_reducible rfl
        simp only [Act.put, List.getElem_toArray, List.getElem_cons_zero, List.getElem_cons_succ, List.setIfInBounds_toArray, List.set_cons_zero, List.set_cons_succ]
        refine wpAnyN_one (i := 7) (by kernel_rfl) rfl (fun K hK => ?_)
        simp only [List.getElem_toArray, List.getElem_cons_zero, List.getElem_cons_succ]
        go_simp
        refine (within_any bs t2.n t1 A1 c1 D7 (PD7.out.bi.keep (fun _ _ => rfl) (fun b h => h.1)) (by have := PD7.out.len; omega) PD7.out.g (PD7.out.a2.keep (fun _ _ => rfl) (fun b h => h.1)) PD7.out.o2).mono ?_
        rintro e w7 ⟨⟨bb, rfl⟩, hb7⟩
        have PE7 := Lib.hid (PD7.out.next hb7)
        have hT7 : (fun w' => Blk w' qu 85 #[.slice A bs.length c, .int .i64 (((n + 1 : Nat)) : Int)] ∧ Blk w' r1 47 #[.int .i64 t2.kind, .int .i64 t2.n, .string t2.name, .slice A2 t2.args.length c2] ∧ Blk w' r2 47 #[.int .i64 t1.kind, .int .i64 t1.n, .string t1.name, .slice A1 t1.args.length c1]) w7 := ⟨PE7.out.u, PE7.out.b1, PE7.out.b2⟩
        clear hb7 hS7
        refine hK _ _ (fun _ => hT7) ?_
        (try simp only [Act.put, List.setIfInBounds_toArray, List.set_cons_zero, List.set_cons_succ])
        refine wpAnyN_done (by kernel_rfl) ?_ _
        cases bb
        · go_upto_region 17 with fail
          obtain ⟨D8, hD8⟩ : ∃ X, Hid (X = w7.drew) := ⟨_, rfl⟩
          have hd8 : Below w7.heap.size w7 D8 := by rw [hD8.out]; exact bDrewN (Below.refl _ _) 1
          have PD8 := Lib.hid (PE7.out.next hd8)
          have hS8 : (fun w' => Blk w' qu 85 #[.slice A bs.length c, .int .i64 (((n + 1 : Nat)) : Int)] ∧ Blk w' r1 47 #[.int .i64 t2.kind, .int .i64 t2.n, .string t2.name, .slice A2 t2.args.length c2] ∧ Blk w' r2 47 #[.int .i64 t1.kind, .int .i64 t1.n, .string t1.name, .slice A1 t1.args.length c1]) D8 := ⟨PD8.out.u, PD8.out.b1, PD8.out.b2⟩
          refine wp_region_N (fun w' => Blk w' qu 85 #[.slice A bs.length c, .int .i64 (((n + 1 : Nat)) : Int)] ∧ Blk w' r1 47 #[.int .i64 t2.kind, .int .i64 t2.n, .string t2.name, .slice A2 t2.args.length c2] ∧ Blk w' r2 47 #[.int .i64 t1.kind, .int .i64 t1.n, .string t1.name, .slice A1 t1.args.length c1]) (fun i => decide (i ≠ 11)) (by kernel_rfl) ?_
          rw [← hD8.out]
          clear hD8 hd8
          refine wpAnyN_take (i := 0) (v := ?v49) rfl (by kernel_rfl) (by kernel_rfl) (by kernel_rfl) (by kernel_rfl) (fun _ _ _ h => h) (Or.inl ⟨by rfl, ?hy49⟩) (by assumption) ?_
          case hy49 => intro w hSw; obtain ⟨b0, b1, b2⟩ := hSw; have m0 := b0.cell 0; have m1 := b0.cell 1; have p0 := b1.cell 0; have p1 := b1.cell 1; have p2 := b1.cell 2; have p3 := b1.cell 3; have s0 := b2.cell 0; have s1 := b2.cell 1; have s2 := b2.cell 2; have s3 := b2.cell 3; simp at m0 m1 p0 p1 p2 p3 s0 s1 s2 s3; go_simp; try with_reducible rfl
          simp only [Act.put, List.getElem_toArray, List.getElem_cons_zero, List.setIfInBounds_toArray, List.set_cons_zero, List.set_cons_succ]
          refine wpAnyN_take (i := 1) (v := ?v50) rfl (by kernel_rfl) (by kernel_rfl) (by kernel_rfl) (by kernel_rfl) (fun _ _ _ h => h) (Or.inl ⟨by rfl, ?hy50⟩) (by assumption) ?_
          case hy50 => intro w hSw; obtain ⟨b0, b1, b2⟩ := hSw; have m0 := b0.cell 0; have m1 := b0.cell 1; have p0 := b1.cell 0; have p1 := b1.cell 1; have p2 := b1.cell 2; have p3 := b1.cell 3; have s0 := b2.cell 0; have s1 := b2.cell 1; have s2 := b2.cell 2; have s3 := b2.cell 3; simp at m0 m1 p0 p1 p2 p3 s0 s1 s2 s3; go_simp; try with_reducible rfl
          simp only [Act.put, List.getElem_toArray, List.getElem_cons_zero, List.getElem_cons_succ, List.setIfInBounds_toArray, List.set_cons_zero, List.set_cons_succ]
          refine wpAnyN_take (i := 2) (v := ?v51) rfl (by kernel_rfl) (by kernel_rfl) (by kernel_rfl) (by kernel_rfl) (fun _ _ _ h => h) (Or.inl ⟨by rfl, ?hy51⟩) (by assumption) ?_
          case hy51 => intro w hSw; obtain ⟨b0, b1, b2⟩ := hSw; have m0 := b0.cell 0; have m1 := b0.cell 1; have p0 := b1.cell 0; have p1 := b1.cell 1; have p2 := b1.cell 2; have p3 := b1.cell 3; have s0 := b2.cell 0; have s1 := b2.cell 1; have s2 := b2.cell 2; have s3 := b2.cell 3; simp at m0 m1 p0 p1 p2 p3 s0 s1 s2 s3; go_simp; try with_reducible rfl
          simp only [Act.put, List.getElem_toArray, List.getElem_cons_zero, List.getElem_cons_succ, List.setIfInBounds_toArray, List.set_cons_zero, List.set_cons_succ]
          refine wpAnyN_take (i := 3) (v := ?v52) rfl (by kernel_rfl) (by kernel_rfl) (by kernel_rfl) (by kernel_rfl) (fun _ _ _ h => h) (Or.inl ⟨by rfl, ?hy52⟩) (by assumption) ?_
          case hy52 => intro w hSw; obtain ⟨b0, b1, b2⟩ := hSw; have m0 := b0.cell 0; have m1 := b0.cell 1; have p0 := b1.cell 0; have p1 := b1.cell 1; have p2 := b1.cell 2; have p3 := b1.cell 3; have s0 := b2.cell 0; have s1 := b2.cell 1; have s2 := b2.cell 2; have s3 := b2.cell 3; simp at m0 m1 p0 p1 p2 p3 s0 s1 s2 s3; go_simp; try with_reducible rfl
          simp only [Act.put, List.getElem_toArray, List.getElem_cons_zero, List.getElem_cons_succ, List.setIfInBounds_toArray, List.set_cons_zero, List.set_cons_succ]
          refine wpAnyN_take (i := 4) (v := ?v53) rfl (by kernel_rfl) (by kernel_rfl) (by kernel_rfl) (by kernel_rfl) (fun _ _ _ h => h) (Or.inl ⟨by rfl, ?hy53⟩) (by assumption) ?_
          case hy53 => intro w hSw; obtain ⟨b0, b1, b2⟩ := hSw; have m0 := b0.cell 0; have m1 := b0.cell 1; have p0 := b1.cell 0; have p1 := b1.cell 1; have p2 := b1.cell 2; have p3 := b1.cell 3; have s0 := b2.cell 0; have s1 := b2.cell 1; have s2 := b2.cell 2; have s3 := b2.cell 3; simp at m0 m1 p0 p1 p2 p3 s0 s1 s2 s3; go_simp; try with_reducible rfl
          simp only [Act.put, List.getElem_toArray, List.getElem_cons_zero, List.getElem_cons_succ, List.setIfInBounds_toArray, List.set_cons_zero, List.set_cons_succ]
          refine wpAnyN_take (i := 5) (v := ?v54) rfl (by kernel_rfl) (by kernel_rfl) (by kernel_rfl) (by kernel_rfl) (fun _ _ _ h => h) (Or.inl ⟨by rfl, ?hy54⟩) (by assumption) ?_
          case hy54 => intro w hSw; obtain ⟨b0, b1, b2⟩ := hSw; have m0 := b0.cell 0; have m1 := b0.cell 1; have p0 := b1.cell 0; have p1 := b1.cell 1; have p2 := b1.cell 2; have p3 := b1.cell 3; have s0 := b2.cell 0; have s1 := b2.cell 1; have s2 := b2.cell 2; have s3 := b2.cell 3; simp at m0 m1 p0 p1 p2 p3 s0 s1 s2 s3; go_simp; try with_reducible rfl
          simp only [Act.put, List.getElem_toArray, List.getElem_cons_zero, List.getElem_cons_succ, List.setIfInBounds_toArray, List.set_cons_zero, List.set_cons_succ]
          refine wpAnyN_take (i := 6) (v := ?v55) rfl (by kernel_rfl) (by kernel_rfl) (by kernel_rfl) (by kernel_rfl) (fun _ _ _ h => h) (Or.inl ⟨by rfl, ?hy55⟩) (by assumption) ?_
          case hy55 => intro w hSw; obtain ⟨b0, b1, b2⟩ := hSw; have m0 := b0.cell 0; have m1 := b0.cell 1; have p0 := b1.cell 0; have p1 := b1.cell 1; have p2 := b1.cell 2; have p3 := b1.cell 3; have s0 := b2.cell 0; have s1 := b2.cell 1; have s2 := b2.cell 2; have s3 := b2.cell 3; simp at m0 m1 p0 p1 p2 p3 s0 s1 s2 s3; go_simp; try with_reducible rfl
          simp only [Act.put, List.getElem_toArray, List.getElem_cons_zero, List.getElem_cons_succ, List.setIfInBounds_toArray, List.set_cons_zero, List.set_cons_succ]
          refine wpAnyN_take (i := 7) (v := ?v56) rfl (by kernel_rfl) (by kernel_rfl) (by kernel_rfl) (by kernel_rfl) (fun _ _ _ h => h) (Or.inl ⟨by rfl, ?hy56⟩) (by assumption) ?_
          case hy56 => intro w hSw; obtain ⟨b0, b1, b2⟩ := hSw; have m0 := b0.cell 0; have m1 := b0.cell 1; have p0 := b1.cell 0; have p1 := b1.cell 1; have p2 := b1.cell 2; have p3 := b1.cell 3; have s0 := b2.cell 0; have s1 := b2.cell 1; have s2 := b2.cell 2; have s3 := b2.cell 3; simp at m0 m1 p0 p1 p2 p3 s0 s1 s2 s3; go_simp; try with_reducible rfl
          simp only [Act.put, List.getElem_toArray, List.getElem_cons_zero, List.getElem_cons_succ, List.setIfInBounds_toArray, List.set_cons_zero, List.set_cons_succ]
          refine wpAnyN_one (i := 8) (by kernel_rfl) rfl (fun K hK => ?_)
          simp only [List.getElem_toArray, List.getElem_cons_zero, List.getElem_cons_succ]
          go_simp
          refine (bound_any bs t2.n t1 A1 c1 D8 (PD8.out.bi.keep (fun _ _ => rfl) (fun b h => h.1)) (by have := PD8.out.len; omega)).mono ?_
          rintro e w8 ⟨⟨A8, c8, bs8, rfl, hr8, hl8, hm8⟩, hb8⟩
          have PE8 := Lib.hid (PD8.out.next hb8)
          have hT8 : (fun w' => Blk w' qu 85 #[.slice A bs.length c, .int .i64 (((n + 1 : Nat)) : Int)] ∧ Blk w' r1 47 #[.int .i64 t2.kind, .int .i64 t2.n, .string t2.name, .slice A2 t2.args.length c2] ∧ Blk w' r2 47 #[.int .i64 t1.kind, .int .i64 t1.n, .string t1.name, .slice A1 t1.args.length c1]) w8 := ⟨PE8.out.u, PE8.out.b1, PE8.out.b2⟩
          have HR8 := Lib.hid hr8
          have HL8 := Lib.hid hl8
          have HM8 := Lib.hid hm8
          have HB8 := Lib.hid hb8
          clear hr8 hl8 hm8 hb8 hS8
          refine hK _ _ (fun _ => hT8) ?_
          (try simp only [Act.put, List.setIfInBounds_toArray, List.set_cons_zero, List.set_cons_succ])
          refine wpAnyN_one (i := 9) (by kernel_rfl) rfl (fun K hK => ?_)
          simp only [List.getElem_toArray, List.getElem_cons_zero, List.getElem_cons_succ]
          go_simp
          refine hK _ _ (fun _ => hT8) ?_
          (try simp only [Act.put, List.setIfInBounds_toArray, List.set_cons_zero, List.set_cons_succ])
          refine wpAnyN_one (i := 10) (by kernel_rfl) rfl (fun K hK => ?_)
          simp only [List.getElem_toArray, List.getElem_cons_zero, List.getElem_cons_succ]
          go_simp
          refine hK _ _ (fun _ => hT8) ?_
          (try simp only [Act.put, List.setIfInBounds_toArray, List.set_cons_zero, List.set_cons_succ])
          have m0 := PE8.out.u.cell 0
          have fm0 := PE8.out.u.frozen 0
          have m1 := PE8.out.u.cell 1
          have fm1 := PE8.out.u.frozen 1
          have lm := PE8.out.u.lt
          simp at m0 m1
          refine wpAnyN_one (i := 11) (by kernel_rfl) rfl (fun K hK => ?_)
          simp only [List.getElem_toArray, List.getElem_cons_zero, List.getElem_cons_succ]
          go_simp
          refine hK _ _ (fun h => absurd h (by decide)) ?_
          (try simp only [Act.put, List.setIfInBounds_toArray, List.set_cons_zero, List.set_cons_succ])
          refine wpAnyN_done (by kernel_rfl) ?_ _
          clear m0 m1 fm0 fm1 lm
          obtain ⟨W8, HW8⟩ : ∃ X, Hid (X = w8.setCell ⟨qu, 0, none⟩ (.slice A8 bs8.length c8)) := ⟨_, rfl⟩
          rw [← HW8.out]
          have hu8 : Upd qu w8 W8 := by rw [HW8.out]; exact (Upd.refl _ _).set 0 _
          have hk8 : Blk W8 qu 85 #[.slice A8 bs8.length c8, .int .i64 (((n + 1 : Nat)) : Int)] := by rw [HW8.out]; simpa using PE8.out.u.set_ 0 (.slice A8 bs8.length c8)
          have PW8 := Lib.hid (PD8.out.bind PD8.out.a2 PD8.out.o2 (fun h => absurd h HKA.out) HB8.out HR8.out HL8.out HM8.out hu8 hk8 (by have := HLB.out; omega))
          clear hu8 hk8 HW8 hT8 PE8 PD8 HR8 HL8 HM8 HB8
          go_wp2_with fail
          go_ret
          exact PW8.out.ret 0 (by omega) (by omega) (fun _ h1 h2 => absurd (HF2.out.2.2 HKB.out) h2)
        · go_wp2_with fail
          go_ret
          exact PE7.out.ret 9 (by omega) (by omega) (fun h => absurd h (by decide))
      · have hkbb : (t2.kind == 0) = false := by simp [hkb]
        have HKB := Lib.hid hkb
        clear hkb
        by_cases e1 : t1.kind = t2.kind
        rotate_left
        · have e1b : (t1.kind != t2.kind) = true := by simp [e1]
          clear e1
          go_wp2_with fail
          go_ret
          exact PW2.out.ret 4 (by omega) (by omega) (fun h => absurd h (by decide))
        have e1b : (t1.kind != t2.kind) = false := by simp [e1]
        have E1 := Lib.hid e1
        clear e1
        by_cases e2 : t1.n = t2.n
        rotate_left
        · have e2b : (t1.n != t2.n) = true := by simp [e2]
          clear e2
          go_wp2_with fail
          go_ret
          exact PW2.out.ret 4 (by omega) (by omega) (fun h => absurd h (by decide))
        have e2b : (t1.n != t2.n) = false := by simp [e2]
        have E2 := Lib.hid e2
        clear e2
        by_cases e3 : t1.name.toList = t2.name.toList
        rotate_left
        · have e3b : (t1.name.toList != t2.name.toList) = true := by simp [e3]
          have e3c : (t1.name.toList == t2.name.toList) = false := by simp [e3]
          clear e3
          go_wp2_with fail
          go_ret
          exact PW2.out.ret 4 (by omega) (by omega) (fun h => absurd h (by decide))
        have e3b : (t1.name.toList != t2.name.toList) = false := by simp [e3]
        have e3c : (t1.name.toList == t2.name.toList) = true := by simp [e3]
        have E3 := Lib.hid (bytes_inj e3)
        clear e3
        by_cases e4 : t1.args.length = t2.args.length
        rotate_left
        · have e4b : ((t1.args.length : Int) != (t2.args.length : Int)) = true := by simp; omega
          clear e4
          go_wp2_with fail
          go_ret
          exact PW2.out.ret 4 (by omega) (by omega) (fun h => absurd h (by decide))
        have e4b : ((t1.args.length : Int) != (t2.args.length : Int)) = false := by simp; omega
        have HE4 := Lib.hid e4
        have hal1 : t1.args.length ≤ 2000 := Nat.le_trans (args_le t1) PW2.out.o1.len
        have hal2 : t2.args.length ≤ 2000 := Nat.le_trans (args_le t2) PW2.out.o2.len
        have HPL := Lib.hid PW2.out.pl
        go_wp2_with fail
        go_loopw [7] (fun i wr => ∃ (k : Nat) (A3 : Option Addr) (c3 : Nat) (bs3 : List Bi) (n3 : Nat), k ≤ t1.args.length ∧ i = .int .i64 (k : Int) ∧ n + 1 ≤ n3 ∧ n3 ≤ 1048576 ∧ Hid (PL w qu r1 r2 A3 c3 bs3 n3 t1 A1 c1 t2 A2 c2 wr)) (fun i _ => t1.args.length - (intOf i).toNat)
        case atStart => exact ⟨0, _, _, _, n + 1, by omega, rfl, by omega, by omega, HPL⟩
        case round =>
          clear HPL PW2 m0 m1 fm0 fm1 lm p0 p1 p2 p3 fp0 fp1 fp2 fp3 lp s0 s1 s2 s3 fs0 fs1 fs2 fs3 ls e4b e4
          obtain ⟨k, A3, c3, bs3, n3, hk, rfl, hn3, hn3', HPL⟩ := hrel
          have p3 := HPL.out.b1.cell 3
          have lp := HPL.out.b1.lt
          simp at p3
          by_cases hkl : k < t1.args.length
          · have hkl2 : k < t2.args.length := by have := HE4.out; omega
            go_upto_region 24 with fail
            obtain ⟨D, hD⟩ : ∃ X, Hid (X = wr.drew) := ⟨_, rfl⟩
            have hd : Below wr.heap.size wr D := by rw [hD.out]; exact bDrewN (Below.refl _ _) 1
            have HPD := Lib.hid (HPL.out.next hd)
            obtain ⟨bx, ox, x, Ax, cx, rfl, hFx, hx, ⟨x0, x1, x2, x3⟩, hxa⟩ := HPD.out.a1.at hkl
            obtain ⟨by_, oy, y, Ay, cy, rfl, hFy, hy, ⟨y0, y1, y2, y3⟩, hya⟩ := HPD.out.a2.at hkl2
            have hS0 : (fun w' => Blk w' r1 47 #[.int .i64 t1.kind, .int .i64 t1.n, .string t1.name, .slice (some ⟨bx, ox, none⟩) t1.args.length c1] ∧ Blk w' r2 47 #[.int .i64 t2.kind, .int .i64 t2.n, .string t2.name, .slice (some ⟨by_, oy, none⟩) t2.args.length c2] ∧ (w'.cell? ⟨bx, ox + k * 4, none⟩ = some (.int .i64 x.kind) ∧ w'.cell? ⟨bx, ox + k * 4 + 1, none⟩ = some (.int .i64 x.n) ∧ w'.cell? ⟨bx, ox + k * 4 + 2, none⟩ = some (.string x.name) ∧ w'.cell? ⟨bx, ox + k * 4 + 3, none⟩ = some (.slice Ax x.args.length cx)) ∧ w'.cell? ⟨by_, oy + k * 4, none⟩ = some (.int .i64 y.kind) ∧ w'.cell? ⟨by_, oy + k * 4 + 1, none⟩ = some (.int .i64 y.n) ∧ w'.cell? ⟨by_, oy + k * 4 + 2, none⟩ = some (.string y.name) ∧ w'.cell? ⟨by_, oy + k * 4 + 3, none⟩ = some (.slice Ay y.args.length cy)) D := ⟨HPD.out.b1, HPD.out.b2, ⟨x0, x1, x2, x3⟩, y0, y1, y2, y3⟩
            have HIH := Lib.hid (ih n3 x y bs3 (by omega) Ax cx Ay cy A3 c3 D qu hn3' HPD.out.len HPD.out.g (HPD.out.o1.arg hx) (HPD.out.o2.arg hy) HPD.out.u HPD.out.bi hxa hya)
            refine wp_region_N (fun w' => Blk w' r1 47 #[.int .i64 t1.kind, .int .i64 t1.n, .string t1.name, .slice (some ⟨bx, ox, none⟩) t1.args.length c1] ∧ Blk w' r2 47 #[.int .i64 t2.kind, .int .i64 t2.n, .string t2.name, .slice (some ⟨by_, oy, none⟩) t2.args.length c2] ∧ (w'.cell? ⟨bx, ox + k * 4, none⟩ = some (.int .i64 x.kind) ∧ w'.cell? ⟨bx, ox + k * 4 + 1, none⟩ = some (.int .i64 x.n) ∧ w'.cell? ⟨bx, ox + k * 4 + 2, none⟩ = some (.string x.name) ∧ w'.cell? ⟨bx, ox + k * 4 + 3, none⟩ = some (.slice Ax x.args.length cx)) ∧ w'.cell? ⟨by_, oy + k * 4, none⟩ = some (.int .i64 y.kind) ∧ w'.cell? ⟨by_, oy + k * 4 + 1, none⟩ = some (.int .i64 y.n) ∧ w'.cell? ⟨by_, oy + k * 4 + 2, none⟩ = some (.string y.name) ∧ w'.cell? ⟨by_, oy + k * 4 + 3, none⟩ = some (.slice Ay y.args.length cy)) (fun i => decide (i < 12)) (by kernel_rfl) ?_
            rw [← hD.out]
            clear hD hd hx hy hxa hya x0 x1 x2 x3 y0 y1 y2 y3 p3 lp
            refine wpAnyN_take (i := 0) (v := ?v57) rfl (by kernel_rfl) (by kernel_rfl) (by kernel_rfl) (by kernel_rfl) (fun _ _ _ h => h) (Or.inl ⟨by rfl, ?hy57⟩) (by assumption) ?_
            case hy57 => intro w hSw; obtain ⟨b1, b2, ⟨x0, x1, x2, x3⟩, y0, y1, y2, y3⟩ := hSw; have p3 := b1.cell 3; have s3 := b2.cell 3; simp at p3 s3; go_simp; try with_reducible rfl
            simp only [Act.put, List.getElem_toArray, List.getElem_cons_zero, List.setIfInBounds_toArray, List.set_cons_zero, List.set_cons_succ]
            refine wpAnyN_take (i := 1) (v := ?v58) rfl (by kernel_rfl) (by kernel_rfl) (by kernel_rfl) (by kernel_rfl) (fun _ _ _ h => h) (Or.inl ⟨by rfl, ?hy58⟩) (by assumption) ?_
            case hy58 => intro w hSw; obtain ⟨b1, b2, ⟨x0, x1, x2, x3⟩, y0, y1, y2, y3⟩ := hSw; have p3 := b1.cell 3; have s3 := b2.cell 3; simp at p3 s3; go_simp; try with_reducible rfl
            simp only [Act.put, List.getElem_toArray, List.getElem_cons_zero, List.getElem_cons_succ, List.setIfInBounds_toArray, List.set_cons_zero, List.set_cons_succ]
            refine wpAnyN_take (i := 2) (v := ?v59) rfl (by kernel_rfl) (by kernel_rfl) (by kernel_rfl) (by kernel_rfl) (fun _ _ _ h => h) (Or.inl ⟨by rfl, ?hy59⟩) (by assumption) ?_
            case hy59 => intro w hSw; obtain ⟨b1, b2, ⟨x0, x1, x2, x3⟩, y0, y1, y2, y3⟩ := hSw; have p3 := b1.cell 3; have s3 := b2.cell 3; simp at p3 s3; go_simp; try with_reducible rfl
            simp only [Act.put, List.getElem_toArray, List.getElem_cons_zero, List.getElem_cons_succ, List.setIfInBounds_toArray, List.set_cons_zero, List.set_cons_succ]
            refine wpAnyN_take (i := 3) (v := ?v60) rfl (by kernel_rfl) (by kernel_rfl) (by kernel_rfl) (by kernel_rfl) (fun _ _ _ h => h) (Or.inl ⟨by rfl, ?hy60⟩) (by assumption) ?_
            case hy60 => intro w hSw; obtain ⟨b1, b2, ⟨x0, x1, x2, x3⟩, y0, y1, y2, y3⟩ := hSw; have p3 := b1.cell 3; have s3 := b2.cell 3; simp at p3 s3; go_simp; try with_reducible rfl
            simp only [Act.put, List.getElem_toArray, List.getElem_cons_zero, List.getElem_cons_succ, List.setIfInBounds_toArray, List.set_cons_zero, List.set_cons_succ]
            refine wpAnyN_take (i := 4) (v := ?v61) rfl (by kernel_rfl) (by kernel_rfl) (by kernel_rfl) (by kernel_rfl) (fun _ _ _ h => h) (Or.inl ⟨by rfl, ?hy61⟩) (by assumption) ?_
            case hy61 => intro w hSw; obtain ⟨b1, b2, ⟨x0, x1, x2, x3⟩, y0, y1, y2, y3⟩ := hSw; have p3 := b1.cell 3; have s3 := b2.cell 3; simp at p3 s3; go_simp; try with_reducible rfl
            simp only [Act.put, List.getElem_toArray, List.getElem_cons_zero, List.getElem_cons_succ, List.setIfInBounds_toArray, List.set_cons_zero, List.set_cons_succ]
            refine wpAnyN_take (i := 5) (v := ?v62) rfl (by kernel_rfl) (by kernel_rfl) (by kernel_rfl) (by kernel_rfl) (fun _ _ _ h => h) (Or.inl ⟨by rfl, ?hy62⟩) (by assumption) ?_
            case hy62 => intro w hSw; obtain ⟨b1, b2, ⟨x0, x1, x2, x3⟩, y0, y1, y2, y3⟩ := hSw; have p3 := b1.cell 3; have s3 := b2.cell 3; simp at p3 s3; go_simp; try with_reducible rfl
            simp only [Act.put, List.getElem_toArray, List.getElem_cons_zero, List.getElem_cons_succ, List.setIfInBounds_toArray, List.set_cons_zero, List.set_cons_succ]
            refine wpAnyN_take (i := 6) (v := ?v63) rfl (by kernel_rfl) (by kernel_rfl) (by kernel_rfl) (by kernel_rfl) (fun _ _ _ h => h) (Or.inl ⟨by rfl, ?hy63⟩) (by assumption) ?_
            case hy63 => intro w hSw; obtain ⟨b1, b2, ⟨x0, x1, x2, x3⟩, y0, y1, y2, y3⟩ := hSw; have p3 := b1.cell 3; have s3 := b2.cell 3; simp at p3 s3; go_simp; try with_reducible rfl
            simp only [Act.put, List.getElem_toArray, List.getElem_cons_zero, List.getElem_cons_succ, List.setIfInBounds_toArray, List.set_cons_zero, List.set_cons_succ]
            refine wpAnyN_take (i := 7) (v := ?v64) rfl (by kernel_rfl) (by kernel_rfl) (by kernel_rfl) (by kernel_rfl) (fun _ _ _ h => h) (Or.inl ⟨by rfl, ?hy64⟩) (by assumption) ?_
            case hy64 => intro w hSw; obtain ⟨b1, b2, ⟨x0, x1, x2, x3⟩, y0, y1, y2, y3⟩ := hSw; have p3 := b1.cell 3; have s3 := b2.cell 3; simp at p3 s3; go_simp; try with_reducible rfl
            simp only [Act.put, List.getElem_toArray, List.getElem_cons_zero, List.getElem_cons_succ, List.setIfInBounds_toArray, List.set_cons_zero, List.set_cons_succ]
            refine wpAnyN_take (i := 8) (v := ?v65) rfl (by kernel_rfl) (by kernel_rfl) (by kernel_rfl) (by kernel_rfl) (fun _ _ _ h => h) (Or.inl ⟨by rfl, ?hy65⟩) (by assumption) ?_
            case hy65 => intro w hSw; obtain ⟨b1, b2, ⟨x0, x1, x2, x3⟩, y0, y1, y2, y3⟩ := hSw; have p3 := b1.cell 3; have s3 := b2.cell 3; simp at p3 s3; go_simp; try with_reducible rfl
            simp only [Act.put, List.getElem_toArray, List.getElem_cons_zero, List.getElem_cons_succ, List.setIfInBounds_toArray, List.set_cons_zero, List.set_cons_succ]
            refine wpAnyN_take (i := 9) (v := ?v66) rfl (by kernel_rfl) (by kernel_rfl) (by kernel_rfl) (by kernel_rfl) (fun _ _ _ h => h) (Or.inl ⟨by rfl, ?hy66⟩) (by assumption) ?_
            case hy66 => intro w hSw; obtain ⟨b1, b2, ⟨x0, x1, x2, x3⟩, y0, y1, y2, y3⟩ := hSw; have p3 := b1.cell 3; have s3 := b2.cell 3; simp at p3 s3; go_simp; try with_reducible rfl
            simp only [Act.put, List.getElem_toArray, List.getElem_cons_zero, List.getElem_cons_succ, List.setIfInBounds_toArray, List.set_cons_zero, List.set_cons_succ]
            refine wpAnyN_take (i := 10) (v := ?v67) rfl (by kernel_rfl) (by kernel_rfl) (by kernel_rfl) (by kernel_rfl) (fun _ _ _ h => h) (Or.inl ⟨by rfl, ?hy67⟩) (by assumption) ?_
            case hy67 => intro w hSw; obtain ⟨b1, b2, ⟨x0, x1, x2, x3⟩, y0, y1, y2, y3⟩ := hSw; have p3 := b1.cell 3; have s3 := b2.cell 3; simp at p3 s3; go_simp; try with_reducible rfl
            simp only [Act.put, List.getElem_toArray, List.getElem_cons_zero, List.getElem_cons_succ, List.setIfInBounds_toArray, List.set_cons_zero, List.set_cons_succ]
            refine wpAnyN_one (i := 11) (by kernel_rfl) rfl (fun K hK => ?_)
            simp only [List.getElem_toArray, List.getElem_cons_zero, List.getElem_cons_succ]
            go_simp
            refine HIH.out.mono ?_
            rintro e w9 ⟨er, A9, c9, bs9, n9, rfl, hu9, hbi9, hg9, hl9, hn9, hn9', hkq9, -⟩
            have HP9 := Lib.hid (HPD.out.call hu9 hbi9 hg9 hl9 hkq9)
            have kx : ∀ o, w9.cell? ⟨bx, o, none⟩ = D.cell? ⟨bx, o, none⟩ := fun o => World.cell?_of_block (w := D) (w' := w9) (a := ⟨bx, o, none⟩) (hkq9.block bx hFx.1 hFx.2)
            have ky : ∀ o, w9.cell? ⟨by_, o, none⟩ = D.cell? ⟨by_, o, none⟩ := fun o => World.cell?_of_block (w := D) (w' := w9) (a := ⟨by_, o, none⟩) (hkq9.block by_ hFy.1 hFy.2)
            obtain ⟨-, -, ⟨x0, x1, x2, x3⟩, y0, y1, y2, y3⟩ := hS0
            have hS9 : (fun w' => Blk w' r1 47 #[.int .i64 t1.kind, .int .i64 t1.n, .string t1.name, .slice (some ⟨bx, ox, none⟩) t1.args.length c1] ∧ Blk w' r2 47 #[.int .i64 t2.kind, .int .i64 t2.n, .string t2.name, .slice (some ⟨by_, oy, none⟩) t2.args.length c2] ∧ (w'.cell? ⟨bx, ox + k * 4, none⟩ = some (.int .i64 x.kind) ∧ w'.cell? ⟨bx, ox + k * 4 + 1, none⟩ = some (.int .i64 x.n) ∧ w'.cell? ⟨bx, ox + k * 4 + 2, none⟩ = some (.string x.name) ∧ w'.cell? ⟨bx, ox + k * 4 + 3, none⟩ = some (.slice Ax x.args.length cx)) ∧ w'.cell? ⟨by_, oy + k * 4, none⟩ = some (.int .i64 y.kind) ∧ w'.cell? ⟨by_, oy + k * 4 + 1, none⟩ = some (.int .i64 y.n) ∧ w'.cell? ⟨by_, oy + k * 4 + 2, none⟩ = some (.string y.name) ∧ w'.cell? ⟨by_, oy + k * 4 + 3, none⟩ = some (.slice Ay y.args.length cy)) w9 := ⟨HP9.out.b1, HP9.out.b2, ⟨(kx _).trans x0, (kx _).trans x1, (kx _).trans x2, (kx _).trans x3⟩, (ky _).trans y0, (ky _).trans y1, (ky _).trans y2, (ky _).trans y3⟩
            clear hu9 hbi9 hg9 hl9 hkq9 HIH kx ky x0 x1 x2 x3 y0 y1 y2 y3
            refine hK _ _ (fun _ => hS9) ?_
            (try simp only [Act.put, List.setIfInBounds_toArray, List.set_cons_zero, List.set_cons_succ])
            refine wpAnyN_one (i := 12) (by kernel_rfl) rfl (fun K hK => ?_)
            simp only [List.getElem_toArray, List.getElem_cons_zero, List.getElem_cons_succ]
            go_simp
            refine hK _ _ (fun h => absurd h (by decide)) ?_
            (try simp only [Act.put, List.setIfInBounds_toArray, List.set_cons_zero, List.set_cons_succ])
            refine wpAnyN_done (by kernel_rfl) ?_ _
            by_cases her : er = 0
            · have herb : (er != 0) = false := by simp [her]
              clear her
              go_wp2_with fail
              exact ⟨⟨k + 1, A9, c9, bs9, n9, by omega, by go_num, by omega, hn9', HP9⟩, by simp [intOf]; omega⟩
            · have herb : (er != 0) = true := by simp [her]
              have HER := Lib.hid her
              clear her
              go_wp2_with fail
              go_ret
              exact HP9.out.ret er (by omega) hn9' (fun h => absurd h HER.out)
          · go_wp2_with fail
            go_ret
            exact HPL.out.ret 0 (by omega) hn3' (fun _ h1 h2 => by
              rw [← HF1.out.2.1 h1, ← HF2.out.2.1 h2]
              exact ⟨E1.out, E2.out, E3.out, HE4.out⟩)
end Go.Proofs.Ytpkpdjekoghkcaa
