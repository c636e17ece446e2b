/-
  The walk of Roots: a range over a function.
-/
import Derived.Test.YtpkpffnabcgcbaaRa
import Derived.Test.YtpkpffnabcgcbaaFd
namespace Go.Proofs.Ytpkpffnabcgcbaa
open Go.RowKit Go.Shelf
attribute [local go_sem] Oper.semAt_some

set_option maxRecDepth 100000 in
theorem held_in (F : Fence) (n : Nat) (hf : F.fn 42) (hro : F.round = none) {A A1 : Option Addr} {c c1 : Nat} (s : St) (w : World) :
    CallsIn F n Try.prog 42 #[stV s A c A1 c1] w fun e w' => e = .returned (.func (.func 53) #[] #[.pointer (some ⟨w.heap.size, 0, none⟩)]) ∧ w' = w.alloc (.cells #[.slice A s.envs.length c, .int .i64 s.e, .slice A1 s.chs.length c1] 25) := by
  refine callsIn_of_wp Try.func42 rfl hf ?_ hro
  simp only [Try.ntmps42, List.size_toArray, List.length_cons, List.length_nil, Nat.reduceAdd, Nat.reduceSub, Array.replicate_succ, Array.replicate_zero, List.push_toArray, List.append_toArray, List.nil_append, List.cons_append]
  gi_wp2
  go_ret
  exact ⟨rfl, rfl⟩
theorem KpB.t {n b : Nat} {A B C : World} (h : KpB n b A B) (k : KpB n b B C) : KpB n b A C := ⟨h.1.trans k.1, k.2.trans h.2⟩
theorem KpB.b {n b : Nat} {w : World} (hn : n ≤ w.heap.size) (hb : b < w.heap.size) (W : World) (l : Nat) (o o' : Obj) (hl : w.heap.size ≤ l) (h : W.heap[l]? = some o) (h1 : o.isCells = false) (h2 : o.isWalk = false) : KpB n b W (W.putObj l o') := by
  refine ⟨belowK_b hn W l o o' hl h h1 h2, ?_⟩
  have hlt := (Array.getElem?_eq_some_iff.1 h).1
  exact (grownBy_putObj' W l o').block b (by omega) (fun e => by injection e with e; omega)
theorem held_stops (F : Fence) (n : Nat) (hf : F.fn 53) (hro : F.round = none) (hn : 1 ≤ n) (Bs : Nat) {A A1 : Option Addr} {c c1 : Nat} (s : St) (wS w0 : World) (hS : StAt wS A c A1 c1 s) (hle : s.envs.length ≤ 1000000000000) (hlc : s.chs.length ≤ 1000000000000) (hly : ∀ x ∈ s.envs, x.y.length ≤ 8796093022208) (hla : ∀ x ∈ s.chs, x.args.length ≤ 8796093022208)
    (hb : Below wS.heap.size wS w0) (hk : Blk w0 Bs 25 #[.slice A s.envs.length c, .int .i64 s.e, .slice A1 s.chs.length c1]) :
    SeqStopsK F n Try.prog 53 #[.pointer (some ⟨Bs, 0, none⟩)] (fun x : Cl => #[Value.agg #[.int .i64 x.tag, .int .i64 x.n]]) (KpB wS.heap.size Bs) (fun ys => ys = rootsV s) (fun pre => pre <+: rootsV s) (rootsV s).length w0 := fun l J Jx W hW hJ _ hY h0 =>
  held1_in F n hf hro hn l Bs s wS W hS hle hlc hly hla J Jx hJ hY ⟨hb.trans (hW.mono hb.size), hk.next hW⟩ rfl rfl h0
theorem results_box {tmps : Array Value} {p : Tmp} (h : Try.f21.results = #[.cell p 26]) (w : World) (b : Nat) {v : Value} (hp : tmps.getD p undef = .pointer (some ⟨b, 0, none⟩)) (hb : Boxed w b 26 v) : (results Try.f21 tmps).run Try.prog w = .ok v w := by
  have hc := hb.cell
  have hp' : tmps[p]?.getD undef = .pointer (some ⟨b, 0, none⟩) := by simpa using hp
  simp only [results, h]
  simp [hp', asAddr, loadVar, Try.isAgg26, go_sem, hc]
theorem own_box {W : World} {B n₀ e size n : Nat} {t : TypeId} {v u : Value} {xs : List Value} (h : W.ownsRow n₀ e size v n xs) (hb : Boxed W B t u) (ht : t ≠ e) : (W.setCell ⟨B, 0, none⟩ v).ownsRow n₀ e size v n xs :=
  own_stay h fun g hg => heap_setCell_other _ _ _ _ fun e2 => by
    obtain ⟨cs, hc⟩ := own_ty h hg
    have e2 : g = B := e2
    rw [e2, show W.heap[B]? = _ from hb] at hc
    injection hc with hc
    injection hc with _ hc
    exact ht hc
theorem row_two (w : World) (a b : Value) : ∀ j u, [a, b][j]? = some u → (w.alloc (.cells #[a, b] 38)).cell? ((⟨w.heap.size, 0, none⟩ : Addr).add j) = some u := fun j u hu => by
  have hk := Blk.new w 38 #[a, b]
  have h0 := hk.cell j
  have e : (⟨w.heap.size, 0, none⟩ : Addr).add j = ⟨w.heap.size, j, none⟩ := by cases j <;> simp [Addr.add]
  rw [e, h0]
  simpa using hu
theorem kpb_own {β : Type} {n b B : Nat} {w0 : World} (hn : n ≤ w0.heap.size ∧ n ≤ B) (hb : b < w0.heap.size ∧ b < B) : OwnFrom B (fun (_ : β) W => KpB n b w0 W) := fun _ X Y row hs hg hr => by
  have hsz := hs.1.size
  refine ⟨hs.1.grown hg (by omega) fun k e => by have := (hr k e).1; omega, (hg.block b (by omega) fun e => ?_).trans hs.2⟩
  have := (hr b e.symm).1
  omega
set_option maxRecDepth 100000 in
set_option maxHeartbeats 4000000 in
theorem Roots_in (F : Fence) (n : Nat) (h21 : F.fn 21) (h42 : F.fn 42) (h53 : F.fn 53) (hro : F.round = none) (hn : 3 ≤ n) {A A1 : Option Addr} {c c1 : Nat} (s : St) (w : World) (hS : StAt w A c A1 c1 s) (hle : s.envs.length ≤ 1000000000000) (hlc : s.chs.length ≤ 1000000000000) (hly : ∀ x ∈ s.envs, x.y.length ≤ 8796093022208) (hla : ∀ x ∈ s.chs, x.args.length ≤ 8796093022208) (htot : (rootsV s).length ≤ 1000000000000) :
    CallsIn F n Try.prog 21 #[stV s A c A1 c1] w fun e W' => ∃ v, e = .returned v ∧ W'.ownsRow w.heap.size 38 2 v (rootsV s).length (cCs (rootsV s)) ∧ Below w.heap.size w W' := by
  have h1 : 1 ≤ n := by omega
  obtain ⟨i0, hi, hz0, hz1, hz2⟩ := info_parts info38
  have HZ0 := Lib.hid hz0
  clear hz0
  refine callsIn_of_wp_marks Try.func21 rfl h21 ?_ hro
  simp only [Try.ntmps21, List.size_toArray, List.length_cons, List.length_nil, Nat.reduceAdd, Nat.reduceSub, Array.replicate_succ, Array.replicate_zero, List.push_toArray, List.append_toArray, List.nil_append, List.cons_append]
  gi_wp2_with (gi_at_call 42; refine (held_in F (n - 1) h42 hro s _).mono ?_; rintro e w' ⟨rfl, rfl⟩)
  obtain ⟨W0, hW0⟩ : ∃ W0, ((w.alloc (.cells #[.slice A s.envs.length c, .int .i64 s.e, .slice A1 s.chs.length c1] 25)).alloc (.cells #[.slice none 0 0] 26)).alloc (.cells #[.slice A s.envs.length c, .int .i64 s.e, .slice A1 s.chs.length c1] 25) = W0 := ⟨_, rfl⟩
  have hsz : W0.heap.size = w.heap.size + 3 := by rw [← hW0]; simp
  have hb1 := Boxed.new (w.alloc (.cells #[.slice A s.envs.length c, .int .i64 s.e, .slice A1 s.chs.length c1] 25)) 26 (.slice none 0 0)
  rw [World.size_alloc] at hb1
  have hb2 : Boxed W0 (w.heap.size + 1) 26 (.slice none 0 0) := by rw [← hW0]; exact hb1.alloc _
  have hB0 : Below w.heap.size w W0 := by rw [← hW0]; exact (((Below.refl _ w).alloc (Nat.le_refl _) _).alloc (by simp) _).alloc (by simp; omega) _
  have hk : Blk W0 (w.heap.size + 2) 25 #[.slice A s.envs.length c, .int .i64 s.e, .slice A1 s.chs.length c1] := by
    rw [← hW0]
    have := Blk.new ((w.alloc (.cells #[.slice A s.envs.length c, .int .i64 s.e, .slice A1 s.chs.length c1] 25)).alloc (.cells #[.slice none 0 0] 26)) 25 #[.slice A s.envs.length c, .int .i64 s.e, .slice A1 s.chs.length c1]
    rw [World.size_alloc, World.size_alloc] at this
    exact this
  have hk0 := hk.cell 0
  have hk2 := hk.cell 2
  simp at hk0 hk2
  rw [hW0]
  clear hW0
  refine wpIn_rangeFunc_ownH hro h1 (gf := 53) (lb := #[.pointer (some ⟨w.heap.size + 2, 0, none⟩)]) rfl h53 (enters_of Try.func53 (by kernel_rfl) rfl)
    (held_stops F (n - 1) h53 hro (by omega) (w.heap.size + 2) s w W0 hS hle hlc hly hla hB0 hk) KpB.t (KpB.b (by omega) (by omega)) (Below.refl _ _) (fun _ => rfl)
    (fun pre W => (∃ v, Boxed W (w.heap.size + 1) 26 v ∧ W.ownsRow w.heap.size 38 2 v pre.length (cCs pre) ∧ True) ∧ (Below w.heap.size w W ∧ KpB w.heap.size (w.heap.size + 2) W0 W))
    (fun _ _ _ => False)
    (OwnFrom.and (Own.from (holdsRow_own w.heap.size (w.heap.size + 1) 26 38 2 List.length cCs (fun _ _ => True)) _) (OwnFrom.and (ownFrom_below (Nat.le_refl _) (by omega)) (kpb_own (n := w.heap.size) (b := w.heap.size + 2) (w0 := W0) (by omega) (by omega))))
    (fun _ _ _ _ _ hs _ _ => hs)
    ⟨⟨_, hb2, World.ownsRow_nil _ _ _ _, trivial⟩, hB0, ⟨Below.refl _ _, rfl⟩⟩
    (fun x a' W => ∃ Bx, w.heap.size + 2 < Bx ∧ Blk W Bx 38 #[.int .i64 x.tag, .int .i64 x.n] ∧ a' = { tmps := #[stV s A c A1 c1, .pointer (some ⟨w.heap.size, 0, none⟩), .pointer (some ⟨w.heap.size + 1, 0, none⟩), .pointer (some ⟨Bx, 0, none⟩), .agg #[.slice A s.envs.length c, .int .i64 s.e, .slice A1 s.chs.length c1], .func (.func 53) #[] #[.pointer (some ⟨w.heap.size + 2, 0, none⟩)], .agg #[.int .i64 x.tag, .int .i64 x.n], undef, undef, undef, undef, undef], defers := [] })
    (fun x a' _ X Y row hs hg hr => by
      obtain ⟨Bx, g1, g2, g3⟩ := hs
      refine ⟨Bx, g1, (hg.block Bx g2.lt fun e => ?_).trans g2, g3⟩
      obtain ⟨-, o, ho, hc⟩ := hr Bx e.symm
      have g2' : X.heap[Bx]? = some (Obj.cells _ 38 (0, 0)) := g2
      rw [g2'] at ho; cases ho; cases hc)
    ?assign ?body ?done ?stop
  case assign =>
    rintro l pre x W K ⟨⟨v, hv, hrow, -⟩, hB, hKp⟩ hK
    have hz := hKp.1.size
    gi_wp2
    exact hK _ _ ((KeepsOthers.alloc _ _).from _) ⟨(Below.refl _ W).alloc hB.size _, Below.heap_alloc _ _ _ (by omega)⟩ ⟨⟨v, hv.alloc _, hrow.alloc _, trivial⟩, hB.alloc hB.size _, hKp.1.alloc (by omega) _, (Below.heap_alloc _ _ _ (by omega)).trans hKp.2⟩ ⟨W.heap.size, by omega, Blk.new W 38 _, rfl⟩
  case body =>
    rintro l pre x a' W hl - ⟨⟨v, hv, hrow, -⟩, hB, hKp⟩ ⟨Bx, hBx, bX, rfl⟩ hlt
    have hc := hv.cell
    have hf := hv.frozen
    have x0 := bX.cell 0
    have x1 := bX.cell 1
    have xl := bX.lt
    simp at x0 x1
    have hlt' : pre.length ≤ 1000000000000 := by omega
    have HR := Lib.hid hrow
    obtain ⟨Av, cv, rfl, -⟩ := own_form hrow
    clear hrow
    gi_wp2_with (gi_at_builtin; refine wpListIn_append_own _ rfl _ _ 26 rfl w.heap.size 38 i0 (.agg #[.int .i64 0, .int .i64 0]) 2 16 Try.underlying26 hi HZ0.out hz1 hz2 rfl (by decide) _ _ _ rfl (HR.out.alloc _) ⟨W.heap.size, 0, none⟩ 1 1 [.int .i64 x.tag, .int .i64 x.n] rfl rfl (row_two _ _ _) (by simp [Value.oneCell']) (by unfold maxLen; omega) (by omega) (by have := hB.size; simp; omega) ?_; intro v' w1 hown' hgrow _; obtain ⟨g', cap', rfl⟩ := ownsRow_succ hown'; obtain ⟨hv1, hv2, hr2, hkp2, hb2⟩ := hv.appended (by decide) HR.out hB.size (by omega) hown' hgrow; have hc1 := hv1.cell; have hf1 := hv1.frozen)
    have hq : (w1.setCell ⟨w.heap.size + 1, 0, none⟩ (.slice (some ⟨g', 0, none⟩) (pre.length + 1) cap')).heap[w.heap.size + 2]? = W.heap[w.heap.size + 2]? := by
      have hz := hKp.1.size
      refine (heap_setCell_other _ _ _ _ (by simp)).trans ((hgrow.block _ (by simp; omega) fun e => ?_).trans (Below.heap_alloc _ _ _ (by omega)))
      obtain ⟨cs, hcs⟩ := own_ty HR.out e.symm
      rw [hKp.2] at hcs
      have hk' : W0.heap[w.heap.size + 2]? = some (Obj.cells _ 25 (0, 0)) := hk
      rw [hk'] at hcs
      injection hcs with hcs
      injection hcs with _ hcs
      exact absurd hcs (by decide)
    exact ⟨hkp2.from _, ⟨hb2, hq⟩, ⟨_, hv2, by rw [List.length_append, cCs_app]; exact hr2, trivial⟩, hB.trans hb2, hKp.1.trans hb2, hq.trans hKp.2⟩
  case done =>
    rintro D ys W hD rfl ⟨⟨v, hv, hrow, -⟩, hB, hKp⟩ hK
    have hc := hv.cell
    have hf := hv.frozen
    obtain ⟨Av, cv, rfl, -⟩ := own_form hrow
    gi_wp2
    have hK2 := (KeepsOthers.setCell W ⟨w.heap.size + 1, 0, none⟩ (.slice Av (rootsV s).length cv)).same D _ hK rfl
    refine ⟨by simp, .inl ⟨_, _, rfl, run_takeDeferred hK2, ?_⟩⟩
    have hbx := hv.set (.slice Av (rootsV s).length cv)
    have hbx2 : Boxed ((W.setCell ⟨w.heap.size + 1, 0, none⟩ (.slice Av (rootsV s).length cv)).putObj D (.deferred none)) (w.heap.size + 1) 26 (.slice Av (rootsV s).length cv) := hbx.kept (grownBy_putObj' _ D _) (fun e => by injection e with e; omega)
    have hrow2 := own_box hrow hv (by decide)
    refine ⟨_, results_box rfl _ _ (by rfl) hbx2, .slice Av (rootsV s).length cv, rfl, ownsRow_putObj hrow2 _ hK2 rfl, ?_⟩
    exact (hB.setCell (p := ⟨w.heap.size + 1, 0, none⟩) (by show w.heap.size ≤ w.heap.size + 1; omega) _).trans (belowK_b (w := w) (Nat.le_refl _) _ D _ _ (by omega) hK2 rfl rfl)
  case stop =>
    rintro D c pre W _ _ h _
    exact h.elim
end Go.Proofs.Ytpkpffnabcgcbaa
