/-
  Walks: copied.
-/
import Derived.Test.YtpkpffnabcgcbaaFb
import Derived.Laws.CopyRow
import Derived.Laws.OwnMore
namespace Go.Proofs.Ytpkpffnabcgcbaa
open Go.RowKit

/-- a row that is read -/
def RowIn (w : World) (A : Option Addr) (xs : List Value) : Prop := ∀ ad, A = some ad → ∀ j u, xs[j]? = some u → w.cell? (ad.add j) = some u
theorem run_copy_all {w : World} (t ty e : TypeId) (i : TypeInfo) (size : Nat) (ht : Try.prog.underlying t = some (.slice e)) (hi : Try.prog.info? e = some i) (hsize : i.size = size)
    (base g n cap : Nat) (xs : List Value) (hown : w.ownsRow base e size (.slice (some ⟨g, 0, none⟩) n cap) n xs)
    (A : Option Addr) (c : Nat) (news : List Value) (hcap : CapOk A n c) (hl : news.length = n * size) (hnews : ∀ ad, A = some ad → ∀ j u, news[j]? = some u → w.cell? (ad.add j) = some u) (h1 : ∀ u ∈ news, u.oneCell' = true) :
    ∃ w', (Builtin.copy_ #[t, t] ty #[.slice (some ⟨g, 0, none⟩) n cap, .slice A n c]).run Try.prog w = .ok (goInt n) w' ∧ w'.ownsRow base e size (.slice (some ⟨g, 0, none⟩) n cap) n news ∧ w.grownBy w' (some g) := by
  cases A with
  | none =>
    have hc := hcap.2 rfl
    have hn : n = 0 := by have := hcap.1; omega
    subst hc hn
    have hln : news = [] := List.eq_nil_of_length_eq_zero (by simpa using hl)
    subst hln
    have hx : xs = [] := List.eq_nil_of_length_eq_zero (by simpa using hown.1)
    subst hx
    refine ⟨w, ?_, hown, World.grownBy.refl _ _⟩
    exact run_copy_nil (P := Try.prog) w t t ty e ⟨g, 0, none⟩ 0 cap ht (by simp [hi])
  | some ad =>
    rcases hown.2 with ⟨h0, _⟩ | ⟨g', cap', cur, hv, hb, hg, hnc, hcm, hcs, htake⟩
    · cases h0
    · injection hv with hv1 hv2 hv3
      injection hv1 with hv1
      injection hv1 with hv1
      subst hv1 hv3
      have hle : n * size ≤ cap * size := Nat.mul_le_mul_right _ hnc
      have hf := run_firstCells_some (P := Try.prog) w size n ad n c news hl (hnews ad rfl)
      have hst := run_storeCells_at Try.prog g 0 e news 0 cur w hg (by rw [hl, hcs]; omega) h1
      refine ⟨w.setRow g (cur.toList.take 0 ++ news ++ cur.toList.drop (0 + news.length)).toArray, ?_, ?_, ?_⟩
      · simp only [Nat.add_zero] at hst
        simp [Builtin.copy_, run_underlying ht, Builtin.lenOf, sizeOf, typeInfo, hi, hsize, hf, hst]
      · refine ⟨hl, .inr ⟨g, cap, _, rfl, hb, setRow_heap w g cur _ e (0, 0) hg, hnc, hcm, ?_, ?_⟩⟩
        · have : cur.toList.length = cap * size := by simpa using hcs
          simp
          omega
        · simp [← hl]
      · exact ⟨rfl, rfl, rfl, by simp [World.setRow], fun k _ hk => setRow_other w g k _ (fun e => hk (by rw [e]))⟩

theorem wpList_copy_all {w : World} {ops : Array Oper} {rest : List Oper} {o : Oper} {a : Act} {Q : Exit → Act → World → Prop} (hgd : o.guard = none) (d s : Operand) (t e : TypeId)
    (ho : o.op = .call { callee := .builtin .copy, args := #[d, s], argTypes := #[t, t] }) (i : TypeInfo) (size : Nat) (ht : Try.prog.underlying t = some (.slice e)) (hi : Try.prog.info? e = some i) (hsize : i.size = size)
    (base g n cap : Nat) (xs : List Value) (hd : a.eval d = .slice (some ⟨g, 0, none⟩) n cap) (hown : w.ownsRow base e size (.slice (some ⟨g, 0, none⟩) n cap) n xs)
    (A : Option Addr) (c : Nat) (news : List Value) (hs : a.eval s = .slice A n c) (hcap : CapOk A n c) (hl : news.length = n * size) (hnews : ∀ ad, A = some ad → ∀ j u, news[j]? = some u → w.cell? (ad.add j) = some u) (h1 : ∀ u ∈ news, u.oneCell' = true)
    (h : ∀ w', w'.ownsRow base e size (.slice (some ⟨g, 0, none⟩) n cap) n news → w.grownBy w' (some g) → wpList Try.prog ops Q rest (a.put o.dst (goInt n)) w') : wpList Try.prog ops Q (o :: rest) a w := by
  refine wpList_plain hgd fun K hK => ?_
  obtain ⟨w', hrun, h2, h3⟩ := run_copy_all t o.type e i size ht hi hsize base g n cap xs hown A c news hcap hl hnews h1
  unfold Oper.wp
  simp [execOp, ho, resolve, invoke, builtin, hd, hs, hrun, Result.andThen]
  exact hK _ _ (h w' h2 h3)

theorem info38 : (Try.prog.info? 38).map (fun i => (i.zero, i.size, i.bytes)) = some (some (.agg #[.int .i64 0, .int .i64 0]), 2, 16) := by kernel_rfl
theorem info2 : (Try.prog.info? 2).map (fun i => (i.zero, i.size, i.bytes)) = some (some (.int .i64 0), 1, 8) := by kernel_rfl
theorem c_one (l : List Cl) : ∀ u ∈ cCs l, u.oneCell' = true := by
  induction l with
  | nil => intro u hu; simp [cCs] at hu
  | cons x t ih =>
    intro u hu
    simp only [cCs, List.mem_cons] at hu
    rcases hu with rfl | rfl | hu
    · rfl
    · rfl
    · exact ih u hu
theorem info_parts {t : TypeId} {z : Value} {s b : Nat} (h : (Try.prog.info? t).map (fun i => (i.zero, i.size, i.bytes)) = some (some z, s, b)) :
    ∃ i, Try.prog.info? t = some i ∧ i.zero = some z ∧ i.size = s ∧ i.bytes = b := by
  cases hi : Try.prog.info? t with
  | none => rw [hi] at h; simp at h
  | some i =>
    rw [hi] at h
    simp only [Option.map_some, Option.some.injEq, Prod.mk.injEq] at h
    exact ⟨i, rfl, h.1, h.2.1, h.2.2⟩
theorem i_one (l : List Int) : ∀ u ∈ iCs l, u.oneCell' = true := by
  intro u hu
  obtain ⟨x, -, rfl⟩ := List.mem_map.1 hu
  rfl
set_option maxHeartbeats 2000000 in
theorem copied_cells (A : Option Addr) (c : Nat) (l : List Cl) (w : World) (hcap : CapOk A l.length c) (hr : RowIn w A (cCs l)) (hn : l.length ≤ 8796093022208) :
    Calls Try.prog 35 #[.slice A l.length c] w fun e w' => (∃ v, e = .returned v ∧ w'.ownsRow w.heap.size 38 2 v l.length (cCs l)) ∧ Below w.heap.size w w' := by
  obtain ⟨i0, hi0, hz0, hy0, hb0⟩ := info_parts info38
  have HR := Lib.hid hr
  have HC := Lib.hid hcap
  clear hr hcap
  go_enter Try.func35, Try.ntmps35
  go_wp2_with (refine wpList_make_full _ rfl (.tmp 5) (.tmp 5) 26 rfl w.heap.size 38 i0 _ 2 Try.underlying26 hi0 hz0 hy0 .i64 .i64 _ _ l.length rfl rfl rfl rfl (by rw [hb0]; omega) (by unfold maxLen; omega) (Nat.le_refl _) ?_)
  intro w1 hown hgr
  have hb1 : Below w.heap.size w w1 := (Below.refl _ _).grown hgr (Nat.le_refl _) (fun k hk => by cases hk)
  have hr1 : RowIn w1 A (cCs l) := fun ad ha j u hj => hgr.cell (HR.out ad ha j u hj) (by simp)
  have HR1 := Lib.hid hr1
  have HO := Lib.hid hown
  have HB := Lib.hid hb1
  clear hr1 hown hb1 hgr
  go_wp2_with (refine wpList_copy_all rfl (.tmp 7) (.tmp 8) 26 38 rfl i0 2 Try.underlying26 hi0 hy0 w.heap.size w.heap.size l.length l.length _ rfl HO.out A c (cCs l) rfl HC.out (by rw [cCs_len]) (fun ad ha => HR1.out ad ha) (c_one _) ?_)
  intro w2 ho2 hg2
  have hb2 : Below w.heap.size w w2 := HB.out.grown hg2 HB.out.size (fun k hk => by injection hk; omega)
  have HO2 := Lib.hid ho2
  have HB2 := Lib.hid hb2
  clear ho2 hg2 hb2
  go_wp2_with fail
  go_ret
  exact ⟨⟨_, rfl, HO2.out⟩, HB2.out⟩
set_option maxHeartbeats 2000000 in
theorem copied_ints (A : Option Addr) (c : Nat) (l : List Int) (w : World) (hcap : CapOk A l.length c) (hr : RowIn w A (iCs l)) (hn : l.length ≤ 17592186044416) :
    Calls Try.prog 36 #[.slice A l.length c] w fun e w' => (∃ v, e = .returned v ∧ w'.ownsRow w.heap.size 2 1 v l.length (iCs l)) ∧ Below w.heap.size w w' := by
  obtain ⟨i0, hi0, hz0, hy0, hb0⟩ := info_parts info2
  have HR := Lib.hid hr
  have HC := Lib.hid hcap
  clear hr hcap
  go_enter Try.func36, Try.ntmps36
  go_wp2_with (refine wpList_make_full _ rfl (.tmp 5) (.tmp 5) 27 rfl w.heap.size 2 i0 _ 1 Try.underlying27 hi0 hz0 hy0 .i64 .i64 _ _ l.length rfl rfl rfl rfl (by rw [hb0]; omega) (by unfold maxLen; omega) (Nat.le_refl _) ?_)
  intro w1 hown hgr
  have hb1 : Below w.heap.size w w1 := (Below.refl _ _).grown hgr (Nat.le_refl _) (fun k hk => by cases hk)
  have hr1 : RowIn w1 A (iCs l) := fun ad ha j u hj => hgr.cell (HR.out ad ha j u hj) (by simp)
  have HR1 := Lib.hid hr1
  have HO := Lib.hid hown
  have HB := Lib.hid hb1
  clear hr1 hown hb1 hgr
  go_wp2_with (refine wpList_copy_all rfl (.tmp 7) (.tmp 8) 27 2 rfl i0 1 Try.underlying27 hi0 hy0 w.heap.size w.heap.size l.length l.length _ rfl HO.out A c (iCs l) rfl HC.out (by simp [iCs]) (fun ad ha => HR1.out ad ha) (i_one _) ?_)
  intro w2 ho2 hg2
  have hb2 : Below w.heap.size w w2 := HB.out.grown hg2 HB.out.size (fun k hk => by injection hk; omega)
  have HO2 := Lib.hid ho2
  have HB2 := Lib.hid hb2
  clear ho2 hg2 hb2
  go_wp2_with fail
  go_ret
  exact ⟨⟨_, rfl, HO2.out⟩, HB2.out⟩
end Go.Proofs.Ytpkpffnabcgcbaa
