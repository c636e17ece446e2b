/-
  Copies of cells, of an environment, of a choice point by the reference.
-/
import Derived.Test.YtpkpffnabcgcbaaFw
import Derived.Test.YtpkpffnabcgcbaaFr
namespace Go.Proofs.Ytpkpffnabcgcbaa
open Go.RowKit

/-- an append of a slice that may be nil, to a row of the call's own -/
theorem wpList_append_src {w : World} {ops : Array Oper} {rest : List Oper} {o : Oper} {a : Act} {Q : Exit → Act → World → Prop} (hgd : o.guard = none) (s x : Operand) (t : TypeId)
    (ho : o.op = .call { callee := .builtin .append, args := #[s, x], argTypes := #[t, t] }) (base : Nat) (e : TypeId) (i : TypeInfo) (z : Value) (size bytes : Nat) (ht : Try.prog.underlying t = some (.slice e)) (hi : Try.prog.info? e = some i) (hz : i.zero = some z)
    (hsize : i.size = size) (hby : i.bytes = bytes) (hzs : z.cells.size = size) (hsz : 0 < size)
    (v : Value) (n : Nat) (xs : List Value) (hs : a.eval s = v) (hown : w.ownsRow base e size v n xs)
    (A : Option Addr) (m c : Nat) (news : List Value) (hx : a.eval x = .slice A m c) (hcap : CapOk A m c) (hl : news.length = m * size) (hnews : ∀ ad, A = some ad → ∀ j u, news[j]? = some u → w.cell? (ad.add j) = some u) (h1 : ∀ u ∈ news, u.oneCell' = true)
    (h63 : n + m ≤ maxLen) (hbytes : (n + m) * bytes ≤ 140737488355328) (hbase : base ≤ w.heap.size)
    (h : ∀ v' w', w'.ownsRow base e size v' (n + m) (xs ++ news) → w.grownBy w' v.ownBlock → (v'.ownBlock = v.ownBlock ∨ v'.ownBlock = some w.heap.size) → wpList Try.prog ops Q rest (a.put o.dst v') w') :
    wpList Try.prog ops Q (o :: rest) a w := by
  cases A with
  | some ad => exact wpList_append_own_at w hgd s x t ho base e i z size bytes ht hi hz hsize hby hzs hsz v n xs hs hown ad m c news hx hl (hnews ad rfl) h1 h63 hbytes hbase (fun v' w' h2 h3 _ h5 => h v' w' h2 h3 h5)
  | none =>
    have hc := hcap.2 rfl
    have hm : m = 0 := by have := hcap.1; omega
    subst hc hm
    have hln : news = [] := List.eq_nil_of_length_eq_zero (by simpa using hl)
    subst hln
    have hrun := run_append_owned_none (P := Try.prog) w base t o.type e i size ht hi v n xs hown
    refine wpList_plain hgd fun K hK => ?_
    unfold Oper.wp
    simp [execOp, ho, resolve, invoke, builtin, hs, hx, hrun, Result.andThen]
    exact hK _ _ (h v w (by simpa using hown) (World.grownBy.refl _ _) (.inl rfl))

theorem CellsAt.row {w : World} {A : Option Addr} {l : List Cl} (h : CellsAt w A l) : RowIn w A (cCs l) := fun ad ha j u hj => by
  have hjl : j < l.length * 2 := by rw [← cCs_len]; exact (List.getElem?_eq_some_iff.1 hj).1
  obtain ⟨b, off, e, -, hc⟩ := h (by omega)
  rw [e] at ha
  injection ha with ha
  subst ha
  have e1 : (⟨b, off, none⟩ : Addr).add j = ⟨b, off + j, none⟩ := by cases j <;> simp [Addr.add]
  rw [e1]
  obtain ⟨x, hx⟩ : ∃ x, l[j / 2]? = some x := ⟨_, List.getElem?_eq_getElem (by omega)⟩
  obtain ⟨c0, c1⟩ := hc _ x hx
  obtain ⟨r0, r1⟩ := cCs_at hx
  rcases Nat.mod_two_eq_zero_or_one j with hm | hm
  · rw [show j / 2 * 2 = j by omega] at r0 c0
    rw [c0, ← r0, hj]
  · rw [show j / 2 * 2 + 1 = j by omega] at r1
    rw [show off + j / 2 * 2 + 1 = off + j by omega] at c1
    rw [c1, ← r1, hj]
theorem IntsAt.row {w : World} {A : Option Addr} {l : List Int} (h : IntsAt w A l) : RowIn w A (iCs l) := fun ad ha j u hj => by
  unfold iCs at hj
  rw [List.getElem?_map] at hj
  obtain ⟨x, hx, hu⟩ : ∃ x, l[j]? = some x ∧ .int .i64 x = u := by
    cases hx : l[j]? with
    | none => rw [hx] at hj; cases hj
    | some x => rw [hx] at hj; exact ⟨x, rfl, by injection hj⟩
  obtain ⟨b, off, e, -, hc⟩ := h (by have := (List.getElem?_eq_some_iff.1 hx).1; omega)
  rw [e] at ha
  injection ha with ha
  subst ha
  have e1 : (⟨b, off, none⟩ : Addr).add j = ⟨b, off + j, none⟩ := by cases j <;> simp [Addr.add]
  rw [e1, ← hu]
  exact hc j x hx
set_option maxHeartbeats 2000000 in
theorem own_any (A : Option Addr) (c : Nat) (l : List Cl) (w : World) (hcap : CapOk A l.length c) (h : CellsAt w A l) (hn : l.length ≤ 8796093022208) :
    Calls Try.prog 52 #[.slice A l.length c] w fun e w' => (∃ v, e = .returned v ∧ w'.ownsRow w.heap.size 38 2 v l.length (cCs l)) ∧ Below w.heap.size w w' := by
  obtain ⟨i0, hi0, hz0, hy0, hb0⟩ := info_parts info38
  have HR := Lib.hid h.row
  have HC := Lib.hid hcap
  clear h hcap
  go_enter Try.func52, Try.ntmps52
  go_wp2_with (at_builtin; refine wpList_append_src rfl _ _ 26 rfl w.heap.size 38 i0 _ 2 16 Try.underlying26 hi0 hz0 hy0 hb0 rfl (by decide) (.slice none 0 0) 0 [] rfl (World.ownsRow_nil w w.heap.size 38 2) A l.length c (cCs l) rfl HC.out ?c1 ?c2 ?c3 ?c4 ?c5 ?c6 ?_)
  case c1 => rw [cCs_len]
  case c2 => exact fun ad ha => HR.out ad ha
  case c3 => exact c_one _
  case c4 => unfold maxLen; omega
  case c5 => omega
  case c6 => exact Nat.le_refl _
  intro v1 w1 ho1 hg1 hat1
  have hb1 : Below w.heap.size w w1 := (Below.refl _ _).grown hg1 (Nat.le_refl _) (fun k hk => by cases hk)
  have HO := Lib.hid ho1
  have HB := Lib.hid hb1
  obtain ⟨A1, a1, rfl, -⟩ := own_form ho1
  clear ho1 hg1 hat1 hb1
  go_wp2_with fail
  go_ret
  exact ⟨⟨_, rfl, HO.out⟩, HB.out⟩
set_option maxHeartbeats 2000000 in
theorem ownEnv_any (A : Option Addr) (c : Nat) (x : En) (w : World) (hcap : CapOk A x.y.length c) (h : CellsAt w A x.y) (hn : x.y.length ≤ 8796093022208) :
    Calls Try.prog 33 #[enV x A c] w fun e w' => (∃ v, e = .returned (.agg #[.int .i64 x.prev, .int .i64 x.id, .int .i64 x.pc, v]) ∧ w'.ownsRow w.heap.size 38 2 v x.y.length (cCs x.y)) ∧ Below w.heap.size w w' := by
  obtain ⟨W, HW⟩ : ∃ X, Hid (X = (w.alloc (.cells #[.int .i64 x.prev, .int .i64 x.id, .int .i64 x.pc, .slice A x.y.length c] 54)).alloc (.cells #[.int .i64 0, .int .i64 0, .int .i64 0, .slice none 0 0] 54)) := ⟨_, rfl⟩
  have hbW : Below w.heap.size w W := by rw [HW.out]; exact (bAlloc w _).alloc (by simp) _
  obtain ⟨q, hq⟩ : ∃ q, Hid (q = w.heap.size) := ⟨_, rfl⟩
  obtain ⟨r, hr⟩ : ∃ q, Hid (q = w.heap.size + 1) := ⟨_, rfl⟩
  have hk0 : Blk W q 54 #[.int .i64 x.prev, .int .i64 x.id, .int .i64 x.pc, .slice A x.y.length c] := by rw [HW.out, hq.out]; exact (Blk.new w _ _).alloc _
  have hk1 : Blk W r 54 #[.int .i64 0, .int .i64 0, .int .i64 0, .slice none 0 0] := by
    rw [HW.out, hr.out]
    have h1 := Blk.new (w.alloc (.cells #[.int .i64 x.prev, .int .i64 x.id, .int .i64 x.pc, .slice A x.y.length c] 54)) 54 #[.int .i64 0, .int .i64 0, .int .i64 0, .slice none 0 0]
    rw [World.size_alloc] at h1
    exact h1
  have HCUT := Lib.hid (own_any A c x.y W hcap (h.next hbW) hn)
  have HB := Lib.hid hbW
  have hqr : q ≠ r := by rw [hq.out, hr.out]; omega
  have hqw : w.heap.size ≤ q := by rw [hq.out]; exact Nat.le_refl _
  have hrw : w.heap.size ≤ r := by rw [hr.out]; omega
  have c3 := hk0.cell 3
  have hl := hk0.lt
  have hrW := hk1.lt
  simp at c3
  clear h hcap hbW
  go_enter Try.func33, Try.ntmps33
  go_upto_region 1 with fail
  rw [← HW.out, ← hr.out, ← hq.out]
  clear HW
  go_wp2_with fail
  refine HCUT.out.mono ?_
  rintro e w1 ⟨⟨v, rfl, hv⟩, hb1⟩
  obtain ⟨Av, av, rfl, -⟩ := own_form hv
  have k0 := hk0.next hb1
  have k1 := hk1.next hb1
  have e0 := k0.cell 0
  have e1 := k0.cell 1
  have e2 := k0.cell 2
  have e3 := k0.cell 3
  have f3 := k0.frozen 3
  have g0 := k1.cell 0
  have g1 := k1.cell 1
  have g2 := k1.cell 2
  have g3 := k1.cell 3
  have p0 := k1.frozen 0
  have p1 := k1.frozen 1
  have p2 := k1.frozen 2
  have p3 := k1.frozen 3
  have el := k0.lt
  have fl := k1.lt
  simp at e0 e1 e2 e3 g0 g1 g2 g3
  have HV := Lib.hid hv
  have HB1 := Lib.hid (bNext HB.out hb1)
  have hW1 := HB.out.size
  clear hv hb1 HCUT hk0 hk1 c3
  go_wp2_with fail
  refine bodyPost_ret (v := .agg #[.int .i64 x.prev, .int .i64 x.id, .int .i64 x.pc, .slice Av x.y.length av]) (by simp only [results, Try.results33]; go_simp) rfl ?_
  refine ⟨⟨_, rfl, own_base (own_stay HV.out fun k hk => ?_) hW1⟩, ?_⟩
  · have hkW := (HV.out.lt k hk).1
    repeat rw [heap_setCell_other _ _ _ _ (by simp; omega)]
  · repeat refine Below.setCell ?_ (by simp; omega) _
    exact HB1.out
end Go.Proofs.Ytpkpffnabcgcbaa
