/-
  The walk of the law's view.
-/
import Derived.Test.YtpkpffnabcgcbaaVa
import Derived.Test.YtpkpffnabcgcbaaFx
namespace Go.Proofs.Ytpkpffnabcgcbaa
open Go.RowKit

/-- an append of a slice that may be nil, at the operation -/
theorem wp_append_src {w : World} {o : Oper} {a : Act} {K : Act → World → Prop} {Q : Exit → Act → World → Prop} (s x : Operand) (t : TypeId)
    (ho : o.op = .call { callee := .builtin .append, args := #[s, x], argTypes := #[t, t] }) (base : Nat) (e : TypeId) (i : TypeInfo) (z : Value) (size bytes : Nat) (ht : Try.prog.underlying t = some (.slice e)) (hi : Try.prog.info? e = some i) (hz : i.zero = some z)
    (hsize : i.size = size) (hby : i.bytes = bytes) (hzs : z.cells.size = size) (hsz : 0 < size)
    (v : Value) (n : Nat) (xs : List Value) (hs : a.eval s = v) (hown : w.ownsRow base e size v n xs)
    (A : Option Addr) (m c : Nat) (news : List Value) (hx : a.eval x = .slice A m c) (hcap : CapOk A m c) (hl : news.length = m * size) (hnews : ∀ ad, A = some ad → ∀ j u, news[j]? = some u → w.cell? (ad.add j) = some u) (h1 : ∀ u ∈ news, u.oneCell' = true)
    (h63 : n + m ≤ maxLen) (hbytes : (n + m) * bytes ≤ 140737488355328) (hbase : base ≤ w.heap.size)
    (h : ∀ v' w', w'.ownsRow base e size v' (n + m) (xs ++ news) → w.grownBy w' v.ownBlock → (v'.ownBlock = v.ownBlock ∨ v'.ownBlock = some w.heap.size) → K (a.put o.dst v') w') : o.wp Try.prog a w K Q := by
  cases A with
  | some ad =>
    obtain ⟨v', w', hr, h2, h3, -, h5⟩ := run_append_own_at (P := Try.prog) w base t o.type e i z size bytes ht hi hz hsize hby hzs hsz v n xs hown ad m c news hl (hnews ad rfl) h1 h63 hbytes hbase
    unfold Oper.wp execOp
    simp only [ho, resolve, invoke, builtin, Sem.run_bind, Sem.run_pure, Result.andThen_ok, List.map_toArray, List.map_cons, List.map_nil, hs, hx, hr]
    exact h v' w' h2 h3 h5
  | none =>
    have hc := hcap.2 rfl
    have hm : m = 0 := by have := hcap.1; omega
    subst hc hm
    have hln : news = [] := List.eq_nil_of_length_eq_zero (by simpa using hl)
    subst hln
    have hrun := run_append_owned_none (P := Try.prog) w base t o.type e i size ht hi v n xs hown
    unfold Oper.wp execOp
    simp only [ho, resolve, invoke, builtin, Sem.run_bind, Sem.run_pure, Result.andThen_ok, List.map_toArray, List.map_cons, List.map_nil, hs, hx, hrun]
    exact h v w (by simpa using hown) (World.grownBy.refl _ _) (.inl rfl)
/-- a row of environments of one's own -/
structure RowE (w : World) (B : Nat) (l : List En) (v : Value) (ys : List Value) : Prop where
  row : w.ownsRow B 54 4 v l.length (eCs l ys)
  ylen : ys.length = l.length
  yrow : ∀ (i : Nat) x u, l[i]? = some x → ys[i]? = some u → w.ownsRow B 38 2 u x.y.length (cCs x.y)
  nodup : (blks ys).Nodup
theorem RowE.stay {w w' : World} {B : Nat} {l : List En} {v : Value} {ys : List Value} (h : RowE w B l v ys) (hk : ∀ g, B ≤ g → g < w.heap.size → w'.heap[g]? = w.heap[g]?) : RowE w' B l v ys :=
  ⟨own_stay h.row fun g hg => hk g (h.row.lt g hg).1 (h.row.lt g hg).2, h.ylen, fun i x u hx hu => own_stay (h.yrow i x u hx hu) fun g hg => hk g ((h.yrow i x u hx hu).lt g hg).1 ((h.yrow i x u hx hu).lt g hg).2, h.nodup⟩
theorem RowE.next {w w' : World} {B : Nat} {l : List En} {v : Value} {ys : List Value} (h : RowE w B l v ys) (hb : Below w.heap.size w w') : RowE w' B l v ys := h.stay fun g _ hg => hb.block g hg
theorem RowE.y_lt {w : World} {B : Nat} {l : List En} {v : Value} {ys : List Value} (h : RowE w B l v ys) : ∀ g ∈ blks ys, B ≤ g ∧ g < w.heap.size := fun g hg => by
  obtain ⟨u, hu, e⟩ := List.mem_filterMap.1 hg
  obtain ⟨i, hi⟩ := List.mem_iff_getElem?.1 hu
  have hl := (List.getElem?_eq_some_iff.1 hi).1
  exact (h.yrow i _ u (List.getElem?_eq_getElem (by rw [← h.ylen]; exact hl)) hi).lt g e
theorem RowE.base {w : World} {B B' : Nat} {l : List En} {v : Value} {ys : List Value} (h : RowE w B l v ys) (hb : B' ≤ B) : RowE w B' l v ys :=
  ⟨own_base h.row hb, h.ylen, fun i x u hx hu => own_base (h.yrow i x u hx hu) hb, h.nodup⟩
/-- one environment more -/
theorem RowE.app {X WF : World} {B : Nat} {l : List En} {v v' vy : Value} {ys : List Value} {x : En} {b : Nat} (h : RowE X B l v ys) (hz : ∀ k, k < X.heap.size → some k ≠ v.ownBlock → WF.heap[k]? = X.heap[k]?)
    (hb : ∀ g ∈ blks ys, g < b) (hr : WF.ownsRow B 54 4 v' (l.length + 1) (eCs l ys ++ eCs [x] [vy])) (hy : WF.ownsRow B 38 2 vy x.y.length (cCs x.y)) (hn : ∀ g, vy.ownBlock = some g → b ≤ g) : RowE WF B (l ++ [x]) v' (ys ++ [vy]) := by
  refine ⟨?_, by simp [h.ylen], fun i z u hzi hu => ?_, ?_⟩
  · rw [eCs_app _ _ _ _ h.ylen, List.length_append]
    exact hr
  · rcases Nat.lt_or_ge i l.length with hi | hi
    · rw [List.getElem?_append_left hi] at hzi
      rw [List.getElem?_append_left (by rw [h.ylen]; exact hi)] at hu
      have hy' := h.yrow i z u hzi hu
      exact own_stay hy' fun g hg => hz g (hy'.lt g hg).2 (own_apart hy' h.row (by decide) hg)
    · rw [List.getElem?_append_right hi] at hzi
      rw [List.getElem?_append_right (by rw [h.ylen]; exact hi), h.ylen] at hu
      have h0 : i - l.length = 0 := by
        have := (List.getElem?_eq_some_iff.1 hzi).1
        simp at this
        omega
      rw [h0] at hzi hu
      simp at hzi hu
      subst hzi hu
      exact hy
  · rw [blks_app]
    refine List.nodup_append.2 ⟨h.nodup, ?_, fun g hg k hk e => ?_⟩
    · unfold blks
      cases hvy : vy.ownBlock <;> simp [hvy]
    · subst e
      have h1 := hb g hg
      unfold blks at hk
      obtain ⟨u, hu, e⟩ := List.mem_filterMap.1 hk
      rw [List.mem_singleton] at hu
      subst hu
      have h2 := hn g e
      omega
def ViewR (B : Nat) (l : List En) (e : Ending) (w : World) : Prop := ∃ v ys, e = .returned v ∧ RowE w B l v ys
set_option maxHeartbeats 8000000 in
theorem view_any {A A1 : Option Addr} {c c1 : Nat} (s : St) (w : World) (h : StAt w A c A1 c1 s) (g : Good s) :
    Calls Try.prog 17 #[stV s A c A1 c1] w fun e w' => ViewR w.heap.size (viewV s) e w' ∧ Below w.heap.size w w' := by
  obtain ⟨j1, hi1, hz1, hy1, hb1'⟩ := info_parts info54
  obtain ⟨j0, hi0, hz0, hy0, hb0⟩ := info_parts info38
  obtain ⟨W, HW⟩ : ∃ X, Hid (X = w.alloc (.cells #[.slice A s.envs.length c, .int .i64 s.e, .slice A1 s.chs.length c1] 25)) := ⟨_, rfl⟩
  have hbW : Below w.heap.size w W := by rw [HW.out]; exact bAlloc w _
  obtain ⟨B, hB⟩ : ∃ q, Hid (q = W.heap.size) := ⟨_, rfl⟩
  obtain ⟨q, hq⟩ : ∃ q, Hid (q = w.heap.size) := ⟨_, rfl⟩
  have hk0 : Blk W q 25 #[.slice A s.envs.length c, .int .i64 s.e, .slice A1 s.chs.length c1] := by rw [HW.out, hq.out]; exact Blk.new w _ _
  have HS := Lib.hid (h.next hbW)
  have HG := Lib.hid g
  have HBW := Lib.hid hbW
  have HK := Lib.hid hk0
  have hgl := g.envs
  have hge : s.e ≤ s.envs.length := by have := g.len; omega
  have hg0 := g.e
  have i0 := hk0.cell 0
  have i1 := hk0.cell 1
  have il := hk0.lt
  simp at i0 i1
  have hBW : B ≤ W.heap.size := by rw [hB.out]; exact Nat.le_refl _
  have hWB : W.heap.size ≤ B := by rw [hB.out]; exact Nat.le_refl _
  have hwB : w.heap.size ≤ B := by rw [hB.out]; exact hbW.size
  clear h g hbW hk0
  go_enter Try.func17, Try.ntmps17
  go_upto_region 2 with fail
  rw [← HW.out, ← hq.out]
  clear HW
  go_wp2_with fail
  go_loopw [3, 4] (fun lv av wr => ∃ (a : Int) (ls : List En) (ys : List Value), av = .int .i64 a ∧ 0 ≤ a ∧ a ≤ s.envs.length ∧ (ls.length : Int) + a ≤ s.envs.length ∧ Hid (viewV s = ls ++ viewA s.envs a) ∧ Hid (Below w.heap.size w wr) ∧ Hid (Below W.heap.size W wr) ∧ Hid (RowE wr B ls lv ys)) (fun _ av _ => (intOf av).toNat)
  case atStart => exact ⟨s.e, [], [], rfl, hg0, hge, by simpa using hge, Lib.hid rfl, HBW, Lib.hid (Below.refl _ _), Lib.hid ⟨World.ownsRow_nil _ _ _ _, rfl, fun i x u hx => by simp at hx, List.nodup_nil⟩⟩
  case round =>
    clear i0 i1 il
    obtain ⟨a, ls, ys, rfl, ha0, hal, hsum, HV, HI, HJ, HR⟩ := hrel
    obtain ⟨Vl, cvl, rfl, -⟩ := own_form HR.out.row
    have hkr := HK.out.next HJ.out
    have i0 := hkr.cell 0
    have il := hkr.lt
    simp at i0
    clear hkr
    by_cases hpos : 0 < a
    · obtain ⟨n, rfl⟩ : ∃ n : Nat, a = (n : Int) + 1 := ⟨(a - 1).toNat, by omega⟩
      have hnl : n < s.envs.length := by omega
      obtain ⟨x, hx⟩ : ∃ x, s.envs[n]? = some x := ⟨_, List.getElem?_eq_getElem hnl⟩
      have hxo := HG.out.en n x hx
      have hxy : x.y.length ≤ 4096 := hxo.2.2.2
      have hxp0 : 0 ≤ x.prev := hxo.1
      have hxp1 : x.prev ≤ n := hxo.2.1
      have hcon : (ls.length : Int) ≤ s.envs.length := by omega
      have HV2 := Lib.hid (HV.out.trans (by rw [viewA_step HG.out.en hx]))
      obtain ⟨b, off, rfl, hb, hat⟩ := (HS.out.next HJ.out).envs (by omega)
      obtain ⟨Ay, cy, x0, x1, x2, x3, hcy, hca⟩ := hat n x hx
      have hnw : IntKind.i64.wrap (n : Int) = (n : Int) := by rw [IntKind.wrap_i64]; omega
      have hnI : (n : Int) < (s.envs.length : Int) := by omega
      have HC0 := Lib.hid hcy
      have HX := Lib.hid hx
      clear hat hcy hx HV hxo
      go_upto_region 6 with fail
      obtain ⟨W2, HW2⟩ : ∃ X, Hid (X = wr.alloc (.cells #[.int .i64 x.prev, .int .i64 x.id, .int .i64 x.pc, .slice Ay x.y.length cy] 54)) := ⟨_, rfl⟩
      have hb2 : Below wr.heap.size wr W2 := by rw [HW2.out]; exact bAlloc _ _
      obtain ⟨q5, hq5⟩ : ∃ q, Hid (q = wr.heap.size) := ⟨_, rfl⟩
      have hk5 : Blk W2 q5 54 #[.int .i64 x.prev, .int .i64 x.id, .int .i64 x.pc, .slice Ay x.y.length cy] := by rw [HW2.out, hq5.out]; exact Blk.new _ _ _
      rw [← HW2.out, ← hq5.out]
      obtain ⟨X0, HX0⟩ : ∃ X, Hid (X = W2.drew) := ⟨_, rfl⟩
      have hd0 : Below wr.heap.size wr X0 := bNext hb2 (by rw [HX0.out]; exact bDrew _)
      have hk50 : Blk X0 q5 54 _ := hk5.next (by rw [HX0.out]; exact bDrew _)
      have HR0 := Lib.hid (HR.out.next hd0)
      have HI0 := Lib.hid (bNext HI.out hd0)
      have HJ0 := Lib.hid (bNext HJ.out hd0)
      have HA0 := Lib.hid (hca.next hd0).row
      have hrow5 : ∀ g, Value.ownBlock (.slice Vl ls.length cvl) = some g → g < q5 := fun g hg => by rw [hq5.out]; exact (HR.out.row.lt g hg).2
      have hyl5 : ∀ g ∈ blks ys, g < X0.heap.size := fun g hg => Nat.lt_of_lt_of_le (HR.out.y_lt g hg).2 hd0.size
      have HX0r := Lib.hid hd0
      refine wp_region_N (fun w' => Blk w' q5 54 #[.int .i64 x.prev, .int .i64 x.id, .int .i64 x.pc, .slice Ay x.y.length cy]) (fun j => decide (j < 11)) (by kernel_rfl) ?_
      rw [← HX0.out]
      clear HX0 HW2 hb2 hk5
      have hS0 : (fun w' => Blk w' q5 54 #[.int .i64 x.prev, .int .i64 x.id, .int .i64 x.pc, .slice Ay x.y.length cy]) X0 := hk50
      refine wpAnyN_take (i := 0) (v := ?v1) rfl (by kernel_rfl) (by kernel_rfl) (by kernel_rfl) (by kernel_rfl) (fun _ _ _ h => h) (Or.inl ⟨by rfl, ?hy1⟩) (by assumption) ?_
      case hy1 => intro w hSw; have e0 := hSw.cell 0; have e1 := hSw.cell 1; have e2 := hSw.cell 2; have e3 := hSw.cell 3; simp at e0 e1 e2 e3; go_simp; try with_reducible rfl
      simp only [Act.put, List.getElem_toArray, List.getElem_cons_zero, List.setIfInBounds_toArray, List.set_cons_zero, List.set_cons_succ]
      refine wpAnyN_take (i := 1) (v := ?v2) rfl (by kernel_rfl) (by kernel_rfl) (by kernel_rfl) (by kernel_rfl) (fun _ _ _ h => h) (Or.inl ⟨by rfl, ?hy2⟩) (by assumption) ?_
      case hy2 => intro w hSw; have e0 := hSw.cell 0; have e1 := hSw.cell 1; have e2 := hSw.cell 2; have e3 := hSw.cell 3; simp at e0 e1 e2 e3; go_simp; try with_reducible rfl
      simp only [Act.put, List.getElem_toArray, List.getElem_cons_zero, List.getElem_cons_succ, List.setIfInBounds_toArray, List.set_cons_zero, List.set_cons_succ]
      refine wpAnyN_take (i := 2) (v := ?v3) rfl (by kernel_rfl) (by kernel_rfl) (by kernel_rfl) (by kernel_rfl) (fun _ _ _ h => h) (Or.inl ⟨by rfl, ?hy3⟩) (by assumption) ?_
      case hy3 => intro w hSw; have e0 := hSw.cell 0; have e1 := hSw.cell 1; have e2 := hSw.cell 2; have e3 := hSw.cell 3; simp at e0 e1 e2 e3; go_simp; try with_reducible rfl
      simp only [Act.put, List.getElem_toArray, List.getElem_cons_zero, List.getElem_cons_succ, List.setIfInBounds_toArray, List.set_cons_zero, List.set_cons_succ]
      refine wpAnyN_take (i := 3) (v := ?v4) rfl (by kernel_rfl) (by kernel_rfl) (by kernel_rfl) (by kernel_rfl) (fun _ _ _ h => h) (Or.inl ⟨by rfl, ?hy4⟩) (by assumption) ?_
      case hy4 => intro w hSw; have e0 := hSw.cell 0; have e1 := hSw.cell 1; have e2 := hSw.cell 2; have e3 := hSw.cell 3; simp at e0 e1 e2 e3; go_simp; try with_reducible rfl
      simp only [Act.put, List.getElem_toArray, List.getElem_cons_zero, List.getElem_cons_succ, List.setIfInBounds_toArray, List.set_cons_zero, List.set_cons_succ]
      refine wpAnyN_take (i := 4) (v := ?v5) rfl (by kernel_rfl) (by kernel_rfl) (by kernel_rfl) (by kernel_rfl) (fun _ _ _ h => h) (Or.inl ⟨by rfl, ?hy5⟩) (by assumption) ?_
      case hy5 => intro w hSw; have e0 := hSw.cell 0; have e1 := hSw.cell 1; have e2 := hSw.cell 2; have e3 := hSw.cell 3; simp at e0 e1 e2 e3; go_simp; try with_reducible rfl
      simp only [Act.put, List.getElem_toArray, List.getElem_cons_zero, List.getElem_cons_succ, List.setIfInBounds_toArray, List.set_cons_zero, List.set_cons_succ]
      refine wpAnyN_take (i := 5) (v := ?v6) rfl (by kernel_rfl) (by kernel_rfl) (by kernel_rfl) (by kernel_rfl) (fun _ _ _ h => h) (Or.inl ⟨by rfl, ?hy6⟩) (by assumption) ?_
      case hy6 => intro w hSw; have e0 := hSw.cell 0; have e1 := hSw.cell 1; have e2 := hSw.cell 2; have e3 := hSw.cell 3; simp at e0 e1 e2 e3; go_simp; try with_reducible rfl
      simp only [Act.put, List.getElem_toArray, List.getElem_cons_zero, List.getElem_cons_succ, List.setIfInBounds_toArray, List.set_cons_zero, List.set_cons_succ]
      refine wpAnyN_take (i := 6) (v := ?v7) rfl (by kernel_rfl) (by kernel_rfl) (by kernel_rfl) (by kernel_rfl) (fun _ _ _ h => h) (Or.inl ⟨by rfl, ?hy7⟩) (by assumption) ?_
      case hy7 => intro w hSw; have e0 := hSw.cell 0; have e1 := hSw.cell 1; have e2 := hSw.cell 2; have e3 := hSw.cell 3; simp at e0 e1 e2 e3; go_simp; try with_reducible rfl
      simp only [Act.put, List.getElem_toArray, List.getElem_cons_zero, List.getElem_cons_succ, List.setIfInBounds_toArray, List.set_cons_zero, List.set_cons_succ]
      have hBX : B ≤ X0.heap.size := Nat.le_trans hBW HJ0.out.size
      refine wpAnyN_one (i := 7) (by kernel_rfl) rfl (fun K7 hK7 => ?_)
      simp only [List.getElem_toArray, List.getElem_cons_zero, List.getElem_cons_succ]
      rw [if_pos (by rfl)]
      refine wp_append_src _ _ 26 rfl X0.heap.size 38 j0 _ 2 16 Try.underlying26 hi0 hz0 hy0 hb0 rfl (by decide) (.slice none 0 0) 0 [] rfl (World.ownsRow_nil X0 X0.heap.size 38 2) Ay x.y.length cy (cCs x.y) rfl HC0.out ?c1 ?c2 ?c3 ?c4 ?c5 (Nat.le_refl _) ?_
      case c1 => rw [cCs_len]
      case c2 => exact fun ad ha => HA0.out ad ha
      case c3 => exact c_one _
      case c4 => unfold maxLen; omega
      case c5 => omega
      intro v6 w6 ho6 hg6 hat6
      rw [Nat.zero_add, List.nil_append] at ho6
      have hb6 : Below X0.heap.size X0 w6 := (Below.refl _ _).grown hg6 (Nat.le_refl _) (fun k hk => by cases hk)
      obtain ⟨Vy, cvy, rfl, -⟩ := own_form ho6
      have hS6 := hS0.next hb6
      refine hK7 _ _ (fun _ => hS6) ?_
      have HR6 := Lib.hid (HR0.out.next hb6)
      have HI6 := Lib.hid (bNext HI0.out hb6)
      have HJ6 := Lib.hid (bNext HJ0.out hb6)
      have HO6 := Lib.hid ho6
      have hz06 := hb6.size
      (try simp only [Act.put, List.setIfInBounds_toArray, List.set_cons_zero, List.set_cons_succ])
      refine wpAnyN_take (i := 8) (v := ?v8) rfl (by kernel_rfl) (by kernel_rfl) (by kernel_rfl) (by kernel_rfl) (fun _ _ _ h => h) (Or.inl ⟨by rfl, ?hy8⟩) (by assumption) ?_
      case hy8 => intro w hSw; have e0 := hSw.cell 0; have e1 := hSw.cell 1; have e2 := hSw.cell 2; have e3 := hSw.cell 3; simp at e0 e1 e2 e3; go_simp; try with_reducible rfl
      simp only [Act.put, List.getElem_toArray, List.getElem_cons_zero, List.getElem_cons_succ, List.setIfInBounds_toArray, List.set_cons_zero, List.set_cons_succ]
      refine wpAnyN_one (i := 9) (by kernel_rfl) rfl (fun K9 hK9 => ?_)
      simp only [List.getElem_toArray, List.getElem_cons_zero, List.getElem_cons_succ]
      go_simp
      refine hK9 _ _ (fun _ => hS6.alloc _) ?_
      (try simp only [Act.put, List.setIfInBounds_toArray, List.set_cons_zero, List.set_cons_succ])
      refine wpAnyN_one (i := 10) (by kernel_rfl) rfl (fun K hK => ?_)
      simp only [List.getElem_toArray, List.getElem_cons_zero, List.getElem_cons_succ]
      rw [if_pos (by rfl)]
      have hblk := Blk.new w6 54 #[.int .i64 0, .int .i64 x.id, .int .i64 x.pc, .slice Vy x.y.length cvy]
      refine wp_append_lies _ _ _ 22 rfl B 54 j1 _ 4 48 Try.underlying22 hi1 hz1 hy1 hb1' rfl (by decide) (.slice Vl ls.length cvl) ls.length (eCs ls ys) rfl (HR6.out.row.alloc _) ⟨w6.heap.size, 0, none⟩ 1 1 (eCs [{ x with prev := 0 }] [.slice Vy x.y.length cvy]) rfl ?d1 ?d2 ?d3 (by omega) ?d4 ?d5 ?d6 _ rfl ?_
      case d1 => rfl
      case d2 =>
        intro i u hi
        have h := hblk.cell i
        have e : (⟨w6.heap.size, 0, none⟩ : Addr).add i = ⟨w6.heap.size, i, none⟩ := by cases i <;> simp [Addr.add]
        rw [e]
        exact h.trans (by simpa [eCs] using hi)
      case d3 =>
        intro u hu
        simp only [eCs, List.mem_cons, List.not_mem_nil, or_false] at hu
        rcases hu with rfl | rfl | rfl | rfl <;> rfl
      case d4 => unfold maxLen; omega
      case d5 => omega
      case d6 => simp; omega
      intro gD e8 w8 ho8 hg8 hat8 hlt8
      have hg5 : Value.ownBlock (.slice Vl ls.length cvl) ≠ some q5 := fun e => by have := hrow5 q5 e; omega
      have k8 : Blk w8 q5 54 _ := Blk.grown (hS6.alloc _) hg8 hg5
      refine hK _ _ (fun _ => k8) ?_
      (try simp only [Act.put, List.setIfInBounds_toArray, List.set_cons_zero, List.set_cons_succ])
      refine wpAnyN_one (i := 11) (by kernel_rfl) rfl (fun K hK => ?_)
      simp only [List.getElem_toArray, List.getElem_cons_zero, List.getElem_cons_succ]
      go_simp
      refine hK _ _ (fun h => absurd h (by decide)) ?_
      (try simp only [Act.put, List.setIfInBounds_toArray, List.set_cons_zero, List.set_cons_succ])
      refine wpAnyN_done (by kernel_rfl) ?_ _
      have hwb : ∀ g, Value.ownBlock (.slice Vl ls.length cvl) = some g → w.heap.size ≤ g := fun g hg => by have h1 := (HR6.out.row.lt g hg).1; omega
      have hz : ∀ i, i < w6.heap.size → some i ≠ Value.ownBlock (.slice Vl ls.length cvl) → w8.heap[i]? = w6.heap[i]? := fun i h1 h3 => (hg8.block i (by simp; omega) h3).trans (Below.heap_alloc w6 _ i h1)
      have hIF : Below w.heap.size w w8 := (HI6.out.alloc HI6.out.size _).grown hg8 (by have := HI6.out.size; simp; omega) hwb
      have hJF : Below W.heap.size W w8 := (HJ6.out.alloc HJ6.out.size _).grown hg8 (by have := HJ6.out.size; simp; omega) (fun g hg => Nat.le_trans hWB (HR6.out.row.lt g hg).1)
      have hyF : w8.ownsRow B 38 2 (.slice Vy x.y.length cvy) x.y.length (cCs x.y) := own_base (own_stay HO6.out fun i hi => hz i (HO6.out.lt i hi).2 (own_apart HO6.out HR6.out.row (by decide) hi)) (by omega)
      have hP := HR6.out.app (x := { x with prev := 0 }) hz hyl5 ho8 hyF (fun i hi => (HO6.out.lt i hi).1)
      have HP := Lib.hid hP
      have HIF := Lib.hid hIF
      have HJF := Lib.hid hJF
      have p0 := ((HS.out.next HJF.out).envs (by omega))
      obtain ⟨b9, off9, e9, hb9, hat9⟩ := p0
      injection e9 with e9
      injection e9 with e9 e9' _
      subst e9 e9'
      obtain ⟨-, -, x0', -, -, -, -, -⟩ := hat9 n x HX.out
      have hk9 := HK.out.next HJF.out
      have i0' := hk9.cell 0
      have il' := hk9.lt
      simp at i0'
      clear hP hIF hJF hz hwb hyF k8 ho8 hg8 hat8 hS0 hS6 hblk i0 il x0 x1 x2 x3 hat9 hk9 ho6 hg6 hat6 hb6
      go_wp2_with fail
      exact ⟨⟨x.prev, ls ++ [{ x with prev := 0 }], ys ++ [.slice Vy x.y.length cvy], rfl, by omega, by omega, by rw [List.length_append]; simp; omega, Lib.hid (by rw [HV2.out, List.append_assoc]; rfl), HIF, HJF, HP⟩, by simp [intOf]; omega⟩
    · have hst : viewA s.envs a = [] := viewA_stop (by omega)
      have HVF := Lib.hid (HV.out.trans (by rw [hst, List.append_nil]))
      clear hst HV
      go_wp2_with fail
      go_ret
      exact ⟨⟨_, ys, rfl, by rw [HVF.out]; exact RowE.base HR.out hwB⟩, HI.out⟩
end Go.Proofs.Ytpkpffnabcgcbaa
