/-
  The law FramesPlays: its two clones, whatever order is drawn. Plain: where the choice points behind a call come from. The walk of the law FramesPlays.
-/
import Derived.Test.YtpkpffnabcgcbaaPna
import Derived.Test.YtpkpffnabcgcbaaVi
import Derived.Test.YtpkpffnabcgcbaaVh
import Derived.Test.YtpkpffnabcgcbaaGd
import Derived.Test.YtpkpffnabcgcbaaOp
import Derived.Deep.MidRow
namespace Go.Proofs.Ytpkpffnabcgcbaa
section
open Go.RowKit

section
variable {P : Program} {ops : Array Oper} {Q : Exit → Act → World → Prop} {md : Region.Mode} {S : World → Prop} {need : Nat → Bool}
/-- one of three operations comes up -/
theorem wpAnyN_three {i j k : Nat} {oi oj ok : Oper} {fuel : Nat} {listed : Array Bool} {a : Act} {w : World} (hr : Region.ready md ops listed = [i, j, k]) (hoi : ops[i]? = some oi) (hoj : ops[j]? = some oj) (hok : ops[k]? = some ok)
    (h1 : ∀ K : Act → World → Prop, (∀ a w, (need i = true → S w) → wpAnyN P md ops Q S need fuel (listed.setIfInBounds i true) a w → K a w) → if Region.wanted oi (yielded ops a.tmps) = true then Oper.wp P oi a w K Q else K (a.put oi.dst undef) w)
    (h2 : ∀ K : Act → World → Prop, (∀ a w, (need j = true → S w) → wpAnyN P md ops Q S need fuel (listed.setIfInBounds j true) a w → K a w) → if Region.wanted oj (yielded ops a.tmps) = true then Oper.wp P oj a w K Q else K (a.put oj.dst undef) w)
    (h3 : ∀ K : Act → World → Prop, (∀ a w, (need k = true → S w) → wpAnyN P md ops Q S need fuel (listed.setIfInBounds k true) a w → K a w) → if Region.wanted ok (yielded ops a.tmps) = true then Oper.wp P ok a w K Q else K (a.put ok.dst undef) w) :
    wpAnyN P md ops Q S need (fuel + 1) listed a w := by
  refine ⟨fun h0 => absurd (hr ▸ h0) (by simp), fun q hq => ?_⟩
  rw [hr] at hq
  simp only [List.mem_cons, List.not_mem_nil, or_false] at hq
  rcases hq with rfl | rfl | rfl
  · exact wpOp_step hoi (fun K' hK => h1 K' (fun a w hS hW => hK a w ⟨hS, hW⟩))
  · exact wpOp_step hoj (fun K' hK => h2 K' (fun a w hS hW => hK a w ⟨hS, hW⟩))
  · exact wpOp_step hok (fun K' hK => h3 K' (fun a w hS hW => hK a w ⟨hS, hW⟩))
end
/-- a part of a code -/
def cut1 : Code → Bool → Code
  | .seq a _, false => a
  | .seq _ b, true => b
  | .cond _ a _, false => a
  | .cond _ _ b, true => b
  | .block _ b, _ => b
  | .loop b, _ => b
  | c, _ => c
def cutAt (c : Code) (p : List Bool) : Code := p.foldl cut1 c
def codeOf (f : Func) : Code := f.body.getD .skip
/-- fresh stacks stay where only boxes change -/
theorem StkV.stayT {w w' : World} {B : Nat} {s : St} {ve vc : Value} {ys : List Value} {cs : List (Value × Value)} (h : StkV w B s ve vc ys cs) (hk : ∀ g, (∀ b, ¬ Blk w g 25 b) → w'.heap[g]? = w.heap[g]?) : StkV w' B s ve vc ys cs := by
  have ho : ∀ {t size n : Nat} {v : Value} {xs : List Value}, w.ownsRow B t size v n xs → t ≠ 25 → w'.ownsRow B t size v n xs := fun h1 ht => own_stay h1 fun g hg => hk g fun b hb => own_ne h1 hb ht hg rfl
  exact ⟨ho h.envs (by decide), ho h.chs (by decide), h.ylen, h.clen, fun i x v hx hv => ho (h.yrow i x v hx hv) (by decide), fun i x v hx hv => ⟨ho (h.crow i x v hx hv).1 (by decide), ho (h.crow i x v hx hv).2 (by decide)⟩, h.nodup⟩
theorem leaf3 {w X : World} {s : St} {q5 q6 z : Nat} {ve vc ve' vc' : Value} {ys ys' : List Value} {cs cs' : List (Value × Value)} {z5 z6 : Value} (hb : Below w.heap.size w X) (h1 : StkV X w.heap.size s ve vc ys cs) (hz : ∀ q, ∀ g ∈ foot q ve vc ys cs, g = q ∨ g < z) (h3 : StkV X z s ve' vc' ys' cs') (hwz : w.heap.size ≤ z)
    (k5 : Blk X q5 25 #[.slice none 0 0, z5, .slice none 0 0]) (k6 : Blk X q6 25 #[.slice none 0 0, z6, .slice none 0 0]) (h5 : w.heap.size ≤ q5) (h6 : w.heap.size ≤ q6) (hne : q5 ≠ q6) :
    Below w.heap.size w ((((((X.setCell ⟨q5, 0, none⟩ ve).setCell ⟨q5, 1, none⟩ (.int .i64 s.e)).setCell ⟨q5, 2, none⟩ vc).setCell ⟨q6, 0, none⟩ ve').setCell ⟨q6, 1, none⟩ (.int .i64 s.e)).setCell ⟨q6, 2, none⟩ vc') ∧
      PairA ((((((X.setCell ⟨q5, 0, none⟩ ve).setCell ⟨q5, 1, none⟩ (.int .i64 s.e)).setCell ⟨q5, 2, none⟩ vc).setCell ⟨q6, 0, none⟩ ve').setCell ⟨q6, 1, none⟩ (.int .i64 s.e)).setCell ⟨q6, 2, none⟩ vc') w.heap.size q5 q6 s [] := by
  have u5 := (((Upd.refl q5 X).set 0 ve).set 1 (.int .i64 s.e)).set 2 vc
  have b5 := ((k5.set_ 0 ve).set_ 1 (.int .i64 s.e)).set_ 2 vc
  generalize ((X.setCell ⟨q5, 0, none⟩ ve).setCell ⟨q5, 1, none⟩ (.int .i64 s.e)).setCell ⟨q5, 2, none⟩ vc = X5 at u5 b5 ⊢
  have k6' : Blk X5 q6 25 #[.slice none 0 0, z6, .slice none 0 0] := (u5.block q6 (Ne.symm hne)).trans k6
  have u6 := (((Upd.refl q6 X5).set 0 ve').set 1 (.int .i64 s.e)).set 2 vc'
  have b6 := ((k6'.set_ 0 ve').set_ 1 (.int .i64 s.e)).set_ 2 vc'
  generalize ((X5.setCell ⟨q6, 0, none⟩ ve').setCell ⟨q6, 1, none⟩ (.int .i64 s.e)).setCell ⟨q6, 2, none⟩ vc' = Y at u6 b6 ⊢
  have hk : ∀ g, (∀ b, ¬ Blk X g 25 b) → Y.heap[g]? = X.heap[g]? := fun g hg => (u6.block g fun e => hg _ (e ▸ k6)).trans (u5.block g fun e => hg _ (e ▸ k5))
  refine ⟨u6.below (u5.below hb h5) h6, pair_of (h1.stayT hk) (hz q5) (h3.stayT hk) hwz ?_ ?_ h5 h6 hne⟩
  · exact (u6.block q5 hne).trans (show Blk X5 q5 25 _ by simpa using b5)
  · simpa using b6

set_option maxHeartbeats 8000000 in
set_option maxRecDepth 100000 in
theorem region3 {A A1 : Option Addr} {c c1 q2 : Nat} {s : St} {s0 s1 s3 s4 s5 s6 : Value} {w : World} (h : StAt w A c A1 c1 s) (k2 : Blk w q2 25 #[.slice A s.envs.length c, .int .i64 s.e, .slice A1 s.chs.length c1]) (g : Good s) (hch : ∀ x ∈ s.chs, x.args.length ≤ 8796093022208 ∧ x.alts.length ≤ 17592186044416)
    (K : Act → World → Prop) (Q : Exit → Act → World → Prop) (hP : ∀ c (a : Act) d v w, Q (.panic c) (a.put d v) w → Q (.panic c) a w) (tl : List Value) (htl : tl.length = 70)
    (hKK : ∀ q5 q6 tl' W, tl'.length = 70 → Below w.heap.size w W → PairA W w.heap.size q5 q6 s [] → K ⟨(s0 :: s1 :: .pointer (some ⟨q2, 0, none⟩) :: s3 :: s4 :: .pointer (some ⟨q5, 0, none⟩) :: .pointer (some ⟨q6, 0, none⟩) :: tl').toArray, []⟩ W) :
    Code.wp Try.prog (cutAt (codeOf Try.f6) [true, true, false]) (Exit.then K Q) ⟨(s0 :: s1 :: .pointer (some ⟨q2, 0, none⟩) :: s3 :: s4 :: s5 :: s6 :: tl).toArray, []⟩ w := by
  conv => arg 2; whnf
  obtain ⟨D0, hD0⟩ : ∃ X, Hid (X = w.drew) := ⟨_, rfl⟩
  have hd0 : Below w.heap.size w D0 := by rw [hD0.out]; exact bDrew _
  have HK := Lib.hid hKK
  have HS0 := Lib.hid (h.next hd0)
  have HG := Lib.hid g
  have HCH := Lib.hid hch
  have HPP := Lib.hid hP
  have hS0 : (fun w' => Blk w' q2 25 #[.slice A s.envs.length c, .int .i64 s.e, .slice A1 s.chs.length c1]) D0 := k2.next hd0
  have HB0 := Lib.hid hd0
  have HGY := Lib.hid (show ∀ z ∈ s.envs, z.y.length ≤ 8796093022208 from fun z hz => Nat.le_trans (g.sized.y z hz) (by omega))
  have hq2 := k2.lt
  clear hKK h k2 g hch hd0 hP
  revert htl
  revert tl
  refine fun tl htl => all_of (P := fun tl => Code.wp Try.prog _ _ ⟨(s0 :: s1 :: .pointer (some ⟨q2, 0, none⟩) :: s3 :: s4 :: s5 :: s6 :: tl).toArray, []⟩ w) 70 ?_ tl htl
  intro u7 u8 u9 u10 u11 u12 u13 u14 u15 u16 u17 u18 u19 u20 u21 u22 u23 u24 u25 u26 u27 u28 u29 u30 u31 u32 u33 u34 u35 u36 u37 u38 u39 u40 u41 u42 u43 u44 u45 u46 u47 u48 u49 u50 u51 u52 u53 u54 u55 u56 u57 u58 u59 u60 u61 u62 u63 u64 u65 u66 u67 u68 u69 u70 u71 u72 u73 u74 u75 u76
  show Code.wp Try.prog _ _ ⟨List.toArray (s0 :: s1 :: .pointer (some ⟨q2, 0, none⟩) :: s3 :: s4 :: s5 :: s6 :: u7 :: u8 :: u9 :: u10 :: u11 :: u12 :: u13 :: u14 :: u15 :: u16 :: u17 :: u18 :: u19 :: u20 :: u21 :: u22 :: u23 :: u24 :: u25 :: u26 :: u27 :: u28 :: u29 :: u30 :: u31 :: u32 :: u33 :: u34 :: u35 :: u36 :: u37 :: u38 :: u39 :: u40 :: u41 :: u42 :: u43 :: u44 :: u45 :: u46 :: u47 :: u48 :: u49 :: u50 :: u51 :: u52 :: u53 :: u54 :: u55 :: u56 :: u57 :: u58 :: u59 :: u60 :: u61 :: u62 :: u63 :: u64 :: u65 :: u66 :: u67 :: u68 :: u69 :: u70 :: u71 :: u72 :: u73 :: u74 :: u75 :: u76 :: []), []⟩ w
  refine wp_region_N (fun w' => Blk w' q2 25 #[.slice A s.envs.length c, .int .i64 s.e, .slice A1 s.chs.length c1]) (fun j => decide (j < 7)) (by kernel_rfl) ?_
  rw [← hD0.out]
  clear hD0
  have HQ2 : Hid (q2 < w.heap.size) := Lib.hid hq2
  clear hq2
  refine wpAnyN_take (i := 0) (v := ?v1) rfl (by kernel_rfl) (by kernel_rfl) (by kernel_rfl) (by kernel_rfl) (fun c a w h => HPP.out c a _ _ w h) (Or.inl ⟨by rfl, ?hy1⟩) (by assumption) ?_
  case hy1 => intro w hSw; have e0 := hSw.cell 0; have e1 := hSw.cell 1; have e2 := hSw.cell 2; simp at e0 e1 e2; go_simp; try with_reducible rfl
  simp only [Act.put, List.getElem_toArray, List.getElem_cons_zero, List.setIfInBounds_toArray, List.set_cons_zero, List.set_cons_succ]
  refine wpAnyN_take (i := 2) (v := ?v2) rfl (by kernel_rfl) (by kernel_rfl) (by kernel_rfl) (by kernel_rfl) (fun c a w h => HPP.out c a _ _ w h) (Or.inl ⟨by rfl, ?hy2⟩) (by assumption) ?_
  case hy2 => intro w hSw; have e0 := hSw.cell 0; have e1 := hSw.cell 1; have e2 := hSw.cell 2; simp at e0 e1 e2; go_simp; try with_reducible rfl
  simp only [Act.put, List.getElem_toArray, List.getElem_cons_zero, List.getElem_cons_succ, List.setIfInBounds_toArray, List.set_cons_zero, List.set_cons_succ]
  refine wpAnyN_three (i := 1) (j := 4) (k := 5) (by kernel_rfl) rfl rfl rfl (fun K hK => ?_) (fun K hK => ?_) (fun K hK => ?_)
  · simp only [List.getElem_toArray, List.getElem_cons_zero, List.getElem_cons_succ]
    go_simp
    refine (clone_any s D0 HS0.out HG.out.envs HG.out.chs HGY.out HCH.out).mono ?_
    rintro e X1 ⟨⟨ve, vc, ys, cs, rfl, hsv⟩, hbx⟩
    obtain ⟨D, d, rfl, -⟩ := own_form hsv.envs
    obtain ⟨E, e, rfl, -⟩ := own_form hsv.chs
    have H1_1 := Lib.hid (show StkV X1 w.heap.size s _ _ ys cs from ⟨own_base hsv.envs HB0.out.size, own_base hsv.chs HB0.out.size, hsv.ylen, hsv.clen, fun i x v hx hv => own_base (hsv.yrow i x v hx hv) HB0.out.size, fun i x v hx hv => ⟨own_base (hsv.crow i x v hx hv).1 HB0.out.size, own_base (hsv.crow i x v hx hv).2 HB0.out.size⟩, hsv.nodup⟩)
    have HS_1 := Lib.hid (HS0.out.next hbx)
    have HB_1 := Lib.hid (bNext HB0.out hbx)
    have hS_1 : (fun w' => Blk w' q2 25 #[.slice A s.envs.length c, .int .i64 s.e, .slice A1 s.chs.length c1]) X1 := Blk.next hS0 hbx
    clear hbx hsv
    refine hK _ _ (fun _ => hS_1) ?_
    (try simp only [Act.put, List.setIfInBounds_toArray, List.set_cons_zero, List.set_cons_succ])
    refine wpAnyN_three (i := 3) (j := 4) (k := 5) (by kernel_rfl) rfl rfl rfl (fun K hK => ?_) (fun K hK => ?_) (fun K hK => ?_)
    · simp only [List.getElem_toArray, List.getElem_cons_zero, List.getElem_cons_succ]
      go_simp
      refine (clone_any s X1 HS_1.out HG.out.envs HG.out.chs HGY.out HCH.out).mono ?_
      rintro e X2 ⟨⟨ve', vc', ys', cs', rfl, hsv⟩, hbx⟩
      obtain ⟨D', d', rfl, -⟩ := own_form hsv.envs
      obtain ⟨E', e', rfl, -⟩ := own_form hsv.chs
      have H3_2 := Lib.hid hsv
      have LZ := Lib.hid (fun q (g : Nat) (hg : g ∈ foot q (.slice D s.envs.length d) (.slice E s.chs.length e) ys cs) => (H1_1.out.lt g hg).imp id And.right)
      have hwz := HB_1.out.size
      have H1_2 := Lib.hid (H1_1.out.next hbx)
      have HS_2 := Lib.hid (HS_1.out.next hbx)
      have HB_2 := Lib.hid (bNext HB_1.out hbx)
      have hS_2 : (fun w' => Blk w' q2 25 #[.slice A s.envs.length c, .int .i64 s.e, .slice A1 s.chs.length c1]) X2 := Blk.next hS_1 hbx
      clear hbx hsv
      refine hK _ _ (fun _ => hS_2) ?_
      (try simp only [Act.put, List.setIfInBounds_toArray, List.set_cons_zero, List.set_cons_succ])
      refine wpAnyN_two (i := 4) (j := 5) (by kernel_rfl) rfl rfl (fun K hK => ?_) (fun K hK => ?_)
      · simp only [List.getElem_toArray, List.getElem_cons_zero, List.getElem_cons_succ]
        go_simp
        obtain ⟨X3, hX3⟩ : ∃ X, Hid (X = X2.alloc (.cells #[.slice none 0 0, .int .i64 0, .slice none 0 0] 25)) := ⟨_, rfl⟩
        have hbx : Below X2.heap.size X2 X3 := by rw [hX3.out]; exact bAlloc _ _
        obtain ⟨q5, hq5⟩ : ∃ q, Hid (q = X2.heap.size) := ⟨_, rfl⟩
        have H4_3 : Hid (Blk X3 q5 25 #[.slice none 0 0, .int .i64 0, .slice none 0 0]) := Lib.hid (by rw [hX3.out, hq5.out]; exact Blk.new _ _ _)
        rw [← hX3.out, ← hq5.out]
        have hwq5 : w.heap.size ≤ q5 := by rw [hq5.out]; exact HB_2.out.size
        have H3_3 := Lib.hid (H3_2.out.next hbx)
        have H1_3 := Lib.hid (H1_2.out.next hbx)
        have HS_3 := Lib.hid (HS_2.out.next hbx)
        have HB_3 := Lib.hid (bNext HB_2.out hbx)
        have hS_3 : (fun w' => Blk w' q2 25 #[.slice A s.envs.length c, .int .i64 s.e, .slice A1 s.chs.length c1]) X3 := Blk.next hS_2 hbx
        clear hbx hX3
        refine hK _ _ (fun _ => hS_3) ?_
        (try simp only [Act.put, List.setIfInBounds_toArray, List.set_cons_zero, List.set_cons_succ])
        refine wpAnyN_one (i := 5) (by kernel_rfl) rfl (fun K hK => ?_)
        simp only [List.getElem_toArray, List.getElem_cons_zero, List.getElem_cons_succ]
        go_simp
        obtain ⟨X4, hX4⟩ : ∃ X, Hid (X = X3.alloc (.cells #[.slice none 0 0, .int .i64 0, .slice none 0 0] 25)) := ⟨_, rfl⟩
        have hbx : Below X3.heap.size X3 X4 := by rw [hX4.out]; exact bAlloc _ _
        obtain ⟨q6, hq6⟩ : ∃ q, Hid (q = X3.heap.size) := ⟨_, rfl⟩
        have H5_4 : Hid (Blk X4 q6 25 #[.slice none 0 0, .int .i64 0, .slice none 0 0]) := Lib.hid (by rw [hX4.out, hq6.out]; exact Blk.new _ _ _)
        rw [← hX4.out, ← hq6.out]
        have hwq6 : w.heap.size ≤ q6 := by rw [hq6.out]; exact HB_3.out.size
        have hne : q5 ≠ q6 := by have := H4_3.out.lt; have := hq6.out; omega
        have H4_4 := Lib.hid (H4_3.out.next hbx)
        have H3_4 := Lib.hid (H3_3.out.next hbx)
        have H1_4 := Lib.hid (H1_3.out.next hbx)
        have HS_4 := Lib.hid (HS_3.out.next hbx)
        have HB_4 := Lib.hid (bNext HB_3.out hbx)
        have hS_4 : (fun w' => Blk w' q2 25 #[.slice A s.envs.length c, .int .i64 s.e, .slice A1 s.chs.length c1]) X4 := Blk.next hS_3 hbx
        clear hbx hX4
        refine hK _ _ (fun _ => hS_4) ?_
        (try simp only [Act.put, List.setIfInBounds_toArray, List.set_cons_zero, List.set_cons_succ])
        have q5_0 := H4_4.out.cell 0
        have fq5_0 := H4_4.out.frozen 0
        have q5_1 := H4_4.out.cell 1
        have fq5_1 := H4_4.out.frozen 1
        have q5_2 := H4_4.out.cell 2
        have fq5_2 := H4_4.out.frozen 2
        have lq5 := H4_4.out.lt
        have q6_0 := H5_4.out.cell 0
        have fq6_0 := H5_4.out.frozen 0
        have q6_1 := H5_4.out.cell 1
        have fq6_1 := H5_4.out.frozen 1
        have q6_2 := H5_4.out.cell 2
        have fq6_2 := H5_4.out.frozen 2
        have lq6 := H5_4.out.lt
        simp at q5_0 q5_1 q5_2 q6_0 q6_1 q6_2
        have hF := leaf3 HB_4.out H1_4.out LZ.out H3_4.out hwz H4_4.out H5_4.out hwq5 hwq6 hne
        have HF := Lib.hid hF
        clear hF
        have hn2 : q2 ≠ q5 := by have := HQ2.out; omega
        refine wpAnyN_one (i := 6) (by kernel_rfl) rfl (fun K hK => ?_)
        simp only [List.getElem_toArray, List.getElem_cons_zero, List.getElem_cons_succ]
        go_simp
        refine hK _ _ (fun _ => ((hS_4.far (by simpa using hn2) _).far (by simpa using hn2) _).far (by simpa using hn2) _) ?_
        (try simp only [Act.put, List.setIfInBounds_toArray, List.set_cons_zero, List.set_cons_succ])
        refine wpAnyN_one (i := 7) (by kernel_rfl) rfl (fun K hK => ?_)
        simp only [List.getElem_toArray, List.getElem_cons_zero, List.getElem_cons_succ]
        go_simp
        refine hK _ _ (fun h => absurd h (by decide)) ?_
        (try simp only [Act.put, List.setIfInBounds_toArray, List.set_cons_zero, List.set_cons_succ])
        refine wpAnyN_done (by kernel_rfl) ?_ _
        exact HK.out _ _ _ _ rfl HF.out.1 HF.out.2
      · simp only [List.getElem_toArray, List.getElem_cons_zero, List.getElem_cons_succ]
        go_simp
        obtain ⟨X5, hX5⟩ : ∃ X, Hid (X = X2.alloc (.cells #[.slice none 0 0, .int .i64 0, .slice none 0 0] 25)) := ⟨_, rfl⟩
        have hbx : Below X2.heap.size X2 X5 := by rw [hX5.out]; exact bAlloc _ _
        obtain ⟨q6, hq6⟩ : ∃ q, Hid (q = X2.heap.size) := ⟨_, rfl⟩
        have H5_5 : Hid (Blk X5 q6 25 #[.slice none 0 0, .int .i64 0, .slice none 0 0]) := Lib.hid (by rw [hX5.out, hq6.out]; exact Blk.new _ _ _)
        rw [← hX5.out, ← hq6.out]
        have hwq6 : w.heap.size ≤ q6 := by rw [hq6.out]; exact HB_2.out.size
        have H3_5 := Lib.hid (H3_2.out.next hbx)
        have H1_5 := Lib.hid (H1_2.out.next hbx)
        have HS_5 := Lib.hid (HS_2.out.next hbx)
        have HB_5 := Lib.hid (bNext HB_2.out hbx)
        have hS_5 : (fun w' => Blk w' q2 25 #[.slice A s.envs.length c, .int .i64 s.e, .slice A1 s.chs.length c1]) X5 := Blk.next hS_2 hbx
        clear hbx hX5
        refine hK _ _ (fun _ => hS_5) ?_
        (try simp only [Act.put, List.setIfInBounds_toArray, List.set_cons_zero, List.set_cons_succ])
        refine wpAnyN_one (i := 4) (by kernel_rfl) rfl (fun K hK => ?_)
        simp only [List.getElem_toArray, List.getElem_cons_zero, List.getElem_cons_succ]
        go_simp
        obtain ⟨X6, hX6⟩ : ∃ X, Hid (X = X5.alloc (.cells #[.slice none 0 0, .int .i64 0, .slice none 0 0] 25)) := ⟨_, rfl⟩
        have hbx : Below X5.heap.size X5 X6 := by rw [hX6.out]; exact bAlloc _ _
        obtain ⟨q5, hq5⟩ : ∃ q, Hid (q = X5.heap.size) := ⟨_, rfl⟩
        have H4_6 : Hid (Blk X6 q5 25 #[.slice none 0 0, .int .i64 0, .slice none 0 0]) := Lib.hid (by rw [hX6.out, hq5.out]; exact Blk.new _ _ _)
        rw [← hX6.out, ← hq5.out]
        have hwq5 : w.heap.size ≤ q5 := by rw [hq5.out]; exact HB_5.out.size
        have hne : q5 ≠ q6 := by have := H5_5.out.lt; have := hq5.out; omega
        have H5_6 := Lib.hid (H5_5.out.next hbx)
        have H3_6 := Lib.hid (H3_5.out.next hbx)
        have H1_6 := Lib.hid (H1_5.out.next hbx)
        have HS_6 := Lib.hid (HS_5.out.next hbx)
        have HB_6 := Lib.hid (bNext HB_5.out hbx)
        have hS_6 : (fun w' => Blk w' q2 25 #[.slice A s.envs.length c, .int .i64 s.e, .slice A1 s.chs.length c1]) X6 := Blk.next hS_5 hbx
        clear hbx hX6
        refine hK _ _ (fun _ => hS_6) ?_
        (try simp only [Act.put, List.setIfInBounds_toArray, List.set_cons_zero, List.set_cons_succ])
        have q5_0 := H4_6.out.cell 0
        have fq5_0 := H4_6.out.frozen 0
        have q5_1 := H4_6.out.cell 1
        have fq5_1 := H4_6.out.frozen 1
        have q5_2 := H4_6.out.cell 2
        have fq5_2 := H4_6.out.frozen 2
        have lq5 := H4_6.out.lt
        have q6_0 := H5_6.out.cell 0
        have fq6_0 := H5_6.out.frozen 0
        have q6_1 := H5_6.out.cell 1
        have fq6_1 := H5_6.out.frozen 1
        have q6_2 := H5_6.out.cell 2
        have fq6_2 := H5_6.out.frozen 2
        have lq6 := H5_6.out.lt
        simp at q5_0 q5_1 q5_2 q6_0 q6_1 q6_2
        have hF := leaf3 HB_6.out H1_6.out LZ.out H3_6.out hwz H4_6.out H5_6.out hwq5 hwq6 hne
        have HF := Lib.hid hF
        clear hF
        have hn2 : q2 ≠ q5 := by have := HQ2.out; omega
        refine wpAnyN_one (i := 6) (by kernel_rfl) rfl (fun K hK => ?_)
        simp only [List.getElem_toArray, List.getElem_cons_zero, List.getElem_cons_succ]
        go_simp
        refine hK _ _ (fun _ => ((hS_6.far (by simpa using hn2) _).far (by simpa using hn2) _).far (by simpa using hn2) _) ?_
        (try simp only [Act.put, List.setIfInBounds_toArray, List.set_cons_zero, List.set_cons_succ])
        refine wpAnyN_one (i := 7) (by kernel_rfl) rfl (fun K hK => ?_)
        simp only [List.getElem_toArray, List.getElem_cons_zero, List.getElem_cons_succ]
        go_simp
        refine hK _ _ (fun h => absurd h (by decide)) ?_
        (try simp only [Act.put, List.setIfInBounds_toArray, List.set_cons_zero, List.set_cons_succ])
        refine wpAnyN_done (by kernel_rfl) ?_ _
        exact HK.out _ _ _ _ rfl HF.out.1 HF.out.2
    · simp only [List.getElem_toArray, List.getElem_cons_zero, List.getElem_cons_succ]
      go_simp
      obtain ⟨X7, hX7⟩ : ∃ X, Hid (X = X1.alloc (.cells #[.slice none 0 0, .int .i64 0, .slice none 0 0] 25)) := ⟨_, rfl⟩
      have hbx : Below X1.heap.size X1 X7 := by rw [hX7.out]; exact bAlloc _ _
      obtain ⟨q5, hq5⟩ : ∃ q, Hid (q = X1.heap.size) := ⟨_, rfl⟩
      have H4_7 : Hid (Blk X7 q5 25 #[.slice none 0 0, .int .i64 0, .slice none 0 0]) := Lib.hid (by rw [hX7.out, hq5.out]; exact Blk.new _ _ _)
      rw [← hX7.out, ← hq5.out]
      have hwq5 : w.heap.size ≤ q5 := by rw [hq5.out]; exact HB_1.out.size
      have H1_7 := Lib.hid (H1_1.out.next hbx)
      have HS_7 := Lib.hid (HS_1.out.next hbx)
      have HB_7 := Lib.hid (bNext HB_1.out hbx)
      have hS_7 : (fun w' => Blk w' q2 25 #[.slice A s.envs.length c, .int .i64 s.e, .slice A1 s.chs.length c1]) X7 := Blk.next hS_1 hbx
      clear hbx hX7
      refine hK _ _ (fun _ => hS_7) ?_
      (try simp only [Act.put, List.setIfInBounds_toArray, List.set_cons_zero, List.set_cons_succ])
      refine wpAnyN_two (i := 3) (j := 5) (by kernel_rfl) rfl rfl (fun K hK => ?_) (fun K hK => ?_)
      · simp only [List.getElem_toArray, List.getElem_cons_zero, List.getElem_cons_succ]
        go_simp
        refine (clone_any s X7 HS_7.out HG.out.envs HG.out.chs HGY.out HCH.out).mono ?_
        rintro e X8 ⟨⟨ve', vc', ys', cs', rfl, hsv⟩, hbx⟩
        obtain ⟨D', d', rfl, -⟩ := own_form hsv.envs
        obtain ⟨E', e', rfl, -⟩ := own_form hsv.chs
        have H3_8 := Lib.hid hsv
        have LZ := Lib.hid (fun q (g : Nat) (hg : g ∈ foot q (.slice D s.envs.length d) (.slice E s.chs.length e) ys cs) => (H1_7.out.lt g hg).imp id And.right)
        have hwz := HB_7.out.size
        have H4_8 := Lib.hid (H4_7.out.next hbx)
        have H1_8 := Lib.hid (H1_7.out.next hbx)
        have HS_8 := Lib.hid (HS_7.out.next hbx)
        have HB_8 := Lib.hid (bNext HB_7.out hbx)
        have hS_8 : (fun w' => Blk w' q2 25 #[.slice A s.envs.length c, .int .i64 s.e, .slice A1 s.chs.length c1]) X8 := Blk.next hS_7 hbx
        clear hbx hsv
        refine hK _ _ (fun _ => hS_8) ?_
        (try simp only [Act.put, List.setIfInBounds_toArray, List.set_cons_zero, List.set_cons_succ])
        refine wpAnyN_one (i := 5) (by kernel_rfl) rfl (fun K hK => ?_)
        simp only [List.getElem_toArray, List.getElem_cons_zero, List.getElem_cons_succ]
        go_simp
        obtain ⟨X9, hX9⟩ : ∃ X, Hid (X = X8.alloc (.cells #[.slice none 0 0, .int .i64 0, .slice none 0 0] 25)) := ⟨_, rfl⟩
        have hbx : Below X8.heap.size X8 X9 := by rw [hX9.out]; exact bAlloc _ _
        obtain ⟨q6, hq6⟩ : ∃ q, Hid (q = X8.heap.size) := ⟨_, rfl⟩
        have H5_9 : Hid (Blk X9 q6 25 #[.slice none 0 0, .int .i64 0, .slice none 0 0]) := Lib.hid (by rw [hX9.out, hq6.out]; exact Blk.new _ _ _)
        rw [← hX9.out, ← hq6.out]
        have hwq6 : w.heap.size ≤ q6 := by rw [hq6.out]; exact HB_8.out.size
        have hne : q5 ≠ q6 := by have := H4_8.out.lt; have := hq6.out; omega
        have H3_9 := Lib.hid (H3_8.out.next hbx)
        have H4_9 := Lib.hid (H4_8.out.next hbx)
        have H1_9 := Lib.hid (H1_8.out.next hbx)
        have HS_9 := Lib.hid (HS_8.out.next hbx)
        have HB_9 := Lib.hid (bNext HB_8.out hbx)
        have hS_9 : (fun w' => Blk w' q2 25 #[.slice A s.envs.length c, .int .i64 s.e, .slice A1 s.chs.length c1]) X9 := Blk.next hS_8 hbx
        clear hbx hX9
        refine hK _ _ (fun _ => hS_9) ?_
        (try simp only [Act.put, List.setIfInBounds_toArray, List.set_cons_zero, List.set_cons_succ])
        have q5_0 := H4_9.out.cell 0
        have fq5_0 := H4_9.out.frozen 0
        have q5_1 := H4_9.out.cell 1
        have fq5_1 := H4_9.out.frozen 1
        have q5_2 := H4_9.out.cell 2
        have fq5_2 := H4_9.out.frozen 2
        have lq5 := H4_9.out.lt
        have q6_0 := H5_9.out.cell 0
        have fq6_0 := H5_9.out.frozen 0
        have q6_1 := H5_9.out.cell 1
        have fq6_1 := H5_9.out.frozen 1
        have q6_2 := H5_9.out.cell 2
        have fq6_2 := H5_9.out.frozen 2
        have lq6 := H5_9.out.lt
        simp at q5_0 q5_1 q5_2 q6_0 q6_1 q6_2
        have hF := leaf3 HB_9.out H1_9.out LZ.out H3_9.out hwz H4_9.out H5_9.out hwq5 hwq6 hne
        have HF := Lib.hid hF
        clear hF
        have hn2 : q2 ≠ q5 := by have := HQ2.out; omega
        refine wpAnyN_one (i := 6) (by kernel_rfl) rfl (fun K hK => ?_)
        simp only [List.getElem_toArray, List.getElem_cons_zero, List.getElem_cons_succ]
        go_simp
        refine hK _ _ (fun _ => ((hS_9.far (by simpa using hn2) _).far (by simpa using hn2) _).far (by simpa using hn2) _) ?_
        (try simp only [Act.put, List.setIfInBounds_toArray, List.set_cons_zero, List.set_cons_succ])
        refine wpAnyN_one (i := 7) (by kernel_rfl) rfl (fun K hK => ?_)
        simp only [List.getElem_toArray, List.getElem_cons_zero, List.getElem_cons_succ]
        go_simp
        refine hK _ _ (fun h => absurd h (by decide)) ?_
        (try simp only [Act.put, List.setIfInBounds_toArray, List.set_cons_zero, List.set_cons_succ])
        refine wpAnyN_done (by kernel_rfl) ?_ _
        exact HK.out _ _ _ _ rfl HF.out.1 HF.out.2
      · simp only [List.getElem_toArray, List.getElem_cons_zero, List.getElem_cons_succ]
        go_simp
        obtain ⟨X10, hX10⟩ : ∃ X, Hid (X = X7.alloc (.cells #[.slice none 0 0, .int .i64 0, .slice none 0 0] 25)) := ⟨_, rfl⟩
        have hbx : Below X7.heap.size X7 X10 := by rw [hX10.out]; exact bAlloc _ _
        obtain ⟨q6, hq6⟩ : ∃ q, Hid (q = X7.heap.size) := ⟨_, rfl⟩
        have H5_10 : Hid (Blk X10 q6 25 #[.slice none 0 0, .int .i64 0, .slice none 0 0]) := Lib.hid (by rw [hX10.out, hq6.out]; exact Blk.new _ _ _)
        rw [← hX10.out, ← hq6.out]
        have hwq6 : w.heap.size ≤ q6 := by rw [hq6.out]; exact HB_7.out.size
        have hne : q5 ≠ q6 := by have := H4_7.out.lt; have := hq6.out; omega
        have H4_10 := Lib.hid (H4_7.out.next hbx)
        have H1_10 := Lib.hid (H1_7.out.next hbx)
        have HS_10 := Lib.hid (HS_7.out.next hbx)
        have HB_10 := Lib.hid (bNext HB_7.out hbx)
        have hS_10 : (fun w' => Blk w' q2 25 #[.slice A s.envs.length c, .int .i64 s.e, .slice A1 s.chs.length c1]) X10 := Blk.next hS_7 hbx
        clear hbx hX10
        refine hK _ _ (fun _ => hS_10) ?_
        (try simp only [Act.put, List.setIfInBounds_toArray, List.set_cons_zero, List.set_cons_succ])
        refine wpAnyN_one (i := 3) (by kernel_rfl) rfl (fun K hK => ?_)
        simp only [List.getElem_toArray, List.getElem_cons_zero, List.getElem_cons_succ]
        go_simp
        refine (clone_any s X10 HS_10.out HG.out.envs HG.out.chs HGY.out HCH.out).mono ?_
        rintro e X11 ⟨⟨ve', vc', ys', cs', rfl, hsv⟩, hbx⟩
        obtain ⟨D', d', rfl, -⟩ := own_form hsv.envs
        obtain ⟨E', e', rfl, -⟩ := own_form hsv.chs
        have H3_11 := Lib.hid hsv
        have LZ := Lib.hid (fun q (g : Nat) (hg : g ∈ foot q (.slice D s.envs.length d) (.slice E s.chs.length e) ys cs) => (H1_10.out.lt g hg).imp id And.right)
        have hwz := HB_10.out.size
        have H5_11 := Lib.hid (H5_10.out.next hbx)
        have H4_11 := Lib.hid (H4_10.out.next hbx)
        have H1_11 := Lib.hid (H1_10.out.next hbx)
        have HS_11 := Lib.hid (HS_10.out.next hbx)
        have HB_11 := Lib.hid (bNext HB_10.out hbx)
        have hS_11 : (fun w' => Blk w' q2 25 #[.slice A s.envs.length c, .int .i64 s.e, .slice A1 s.chs.length c1]) X11 := Blk.next hS_10 hbx
        clear hbx hsv
        refine hK _ _ (fun _ => hS_11) ?_
        (try simp only [Act.put, List.setIfInBounds_toArray, List.set_cons_zero, List.set_cons_succ])
        have q5_0 := H4_11.out.cell 0
        have fq5_0 := H4_11.out.frozen 0
        have q5_1 := H4_11.out.cell 1
        have fq5_1 := H4_11.out.frozen 1
        have q5_2 := H4_11.out.cell 2
        have fq5_2 := H4_11.out.frozen 2
        have lq5 := H4_11.out.lt
        have q6_0 := H5_11.out.cell 0
        have fq6_0 := H5_11.out.frozen 0
        have q6_1 := H5_11.out.cell 1
        have fq6_1 := H5_11.out.frozen 1
        have q6_2 := H5_11.out.cell 2
        have fq6_2 := H5_11.out.frozen 2
        have lq6 := H5_11.out.lt
        simp at q5_0 q5_1 q5_2 q6_0 q6_1 q6_2
        have hF := leaf3 HB_11.out H1_11.out LZ.out H3_11.out hwz H4_11.out H5_11.out hwq5 hwq6 hne
        have HF := Lib.hid hF
        clear hF
        have hn2 : q2 ≠ q5 := by have := HQ2.out; omega
        refine wpAnyN_one (i := 6) (by kernel_rfl) rfl (fun K hK => ?_)
        simp only [List.getElem_toArray, List.getElem_cons_zero, List.getElem_cons_succ]
        go_simp
        refine hK _ _ (fun _ => ((hS_11.far (by simpa using hn2) _).far (by simpa using hn2) _).far (by simpa using hn2) _) ?_
        (try simp only [Act.put, List.setIfInBounds_toArray, List.set_cons_zero, List.set_cons_succ])
        refine wpAnyN_one (i := 7) (by kernel_rfl) rfl (fun K hK => ?_)
        simp only [List.getElem_toArray, List.getElem_cons_zero, List.getElem_cons_succ]
        go_simp
        refine hK _ _ (fun h => absurd h (by decide)) ?_
        (try simp only [Act.put, List.setIfInBounds_toArray, List.set_cons_zero, List.set_cons_succ])
        refine wpAnyN_done (by kernel_rfl) ?_ _
        exact HK.out _ _ _ _ rfl HF.out.1 HF.out.2
    · simp only [List.getElem_toArray, List.getElem_cons_zero, List.getElem_cons_succ]
      go_simp
      obtain ⟨X12, hX12⟩ : ∃ X, Hid (X = X1.alloc (.cells #[.slice none 0 0, .int .i64 0, .slice none 0 0] 25)) := ⟨_, rfl⟩
      have hbx : Below X1.heap.size X1 X12 := by rw [hX12.out]; exact bAlloc _ _
      obtain ⟨q6, hq6⟩ : ∃ q, Hid (q = X1.heap.size) := ⟨_, rfl⟩
      have H5_12 : Hid (Blk X12 q6 25 #[.slice none 0 0, .int .i64 0, .slice none 0 0]) := Lib.hid (by rw [hX12.out, hq6.out]; exact Blk.new _ _ _)
      rw [← hX12.out, ← hq6.out]
      have hwq6 : w.heap.size ≤ q6 := by rw [hq6.out]; exact HB_1.out.size
      have H1_12 := Lib.hid (H1_1.out.next hbx)
      have HS_12 := Lib.hid (HS_1.out.next hbx)
      have HB_12 := Lib.hid (bNext HB_1.out hbx)
      have hS_12 : (fun w' => Blk w' q2 25 #[.slice A s.envs.length c, .int .i64 s.e, .slice A1 s.chs.length c1]) X12 := Blk.next hS_1 hbx
      clear hbx hX12
      refine hK _ _ (fun _ => hS_12) ?_
      (try simp only [Act.put, List.setIfInBounds_toArray, List.set_cons_zero, List.set_cons_succ])
      refine wpAnyN_two (i := 3) (j := 4) (by kernel_rfl) rfl rfl (fun K hK => ?_) (fun K hK => ?_)
      · simp only [List.getElem_toArray, List.getElem_cons_zero, List.getElem_cons_succ]
        go_simp
        refine (clone_any s X12 HS_12.out HG.out.envs HG.out.chs HGY.out HCH.out).mono ?_
        rintro e X13 ⟨⟨ve', vc', ys', cs', rfl, hsv⟩, hbx⟩
        obtain ⟨D', d', rfl, -⟩ := own_form hsv.envs
        obtain ⟨E', e', rfl, -⟩ := own_form hsv.chs
        have H3_13 := Lib.hid hsv
        have LZ := Lib.hid (fun q (g : Nat) (hg : g ∈ foot q (.slice D s.envs.length d) (.slice E s.chs.length e) ys cs) => (H1_12.out.lt g hg).imp id And.right)
        have hwz := HB_12.out.size
        have H5_13 := Lib.hid (H5_12.out.next hbx)
        have H1_13 := Lib.hid (H1_12.out.next hbx)
        have HS_13 := Lib.hid (HS_12.out.next hbx)
        have HB_13 := Lib.hid (bNext HB_12.out hbx)
        have hS_13 : (fun w' => Blk w' q2 25 #[.slice A s.envs.length c, .int .i64 s.e, .slice A1 s.chs.length c1]) X13 := Blk.next hS_12 hbx
        clear hbx hsv
        refine hK _ _ (fun _ => hS_13) ?_
        (try simp only [Act.put, List.setIfInBounds_toArray, List.set_cons_zero, List.set_cons_succ])
        refine wpAnyN_one (i := 4) (by kernel_rfl) rfl (fun K hK => ?_)
        simp only [List.getElem_toArray, List.getElem_cons_zero, List.getElem_cons_succ]
        go_simp
        obtain ⟨X14, hX14⟩ : ∃ X, Hid (X = X13.alloc (.cells #[.slice none 0 0, .int .i64 0, .slice none 0 0] 25)) := ⟨_, rfl⟩
        have hbx : Below X13.heap.size X13 X14 := by rw [hX14.out]; exact bAlloc _ _
        obtain ⟨q5, hq5⟩ : ∃ q, Hid (q = X13.heap.size) := ⟨_, rfl⟩
        have H4_14 : Hid (Blk X14 q5 25 #[.slice none 0 0, .int .i64 0, .slice none 0 0]) := Lib.hid (by rw [hX14.out, hq5.out]; exact Blk.new _ _ _)
        rw [← hX14.out, ← hq5.out]
        have hwq5 : w.heap.size ≤ q5 := by rw [hq5.out]; exact HB_13.out.size
        have hne : q5 ≠ q6 := by have := H5_13.out.lt; have := hq5.out; omega
        have H3_14 := Lib.hid (H3_13.out.next hbx)
        have H5_14 := Lib.hid (H5_13.out.next hbx)
        have H1_14 := Lib.hid (H1_13.out.next hbx)
        have HS_14 := Lib.hid (HS_13.out.next hbx)
        have HB_14 := Lib.hid (bNext HB_13.out hbx)
        have hS_14 : (fun w' => Blk w' q2 25 #[.slice A s.envs.length c, .int .i64 s.e, .slice A1 s.chs.length c1]) X14 := Blk.next hS_13 hbx
        clear hbx hX14
        refine hK _ _ (fun _ => hS_14) ?_
        (try simp only [Act.put, List.setIfInBounds_toArray, List.set_cons_zero, List.set_cons_succ])
        have q5_0 := H4_14.out.cell 0
        have fq5_0 := H4_14.out.frozen 0
        have q5_1 := H4_14.out.cell 1
        have fq5_1 := H4_14.out.frozen 1
        have q5_2 := H4_14.out.cell 2
        have fq5_2 := H4_14.out.frozen 2
        have lq5 := H4_14.out.lt
        have q6_0 := H5_14.out.cell 0
        have fq6_0 := H5_14.out.frozen 0
        have q6_1 := H5_14.out.cell 1
        have fq6_1 := H5_14.out.frozen 1
        have q6_2 := H5_14.out.cell 2
        have fq6_2 := H5_14.out.frozen 2
        have lq6 := H5_14.out.lt
        simp at q5_0 q5_1 q5_2 q6_0 q6_1 q6_2
        have hF := leaf3 HB_14.out H1_14.out LZ.out H3_14.out hwz H4_14.out H5_14.out hwq5 hwq6 hne
        have HF := Lib.hid hF
        clear hF
        have hn2 : q2 ≠ q5 := by have := HQ2.out; omega
        refine wpAnyN_one (i := 6) (by kernel_rfl) rfl (fun K hK => ?_)
        simp only [List.getElem_toArray, List.getElem_cons_zero, List.getElem_cons_succ]
        go_simp
        refine hK _ _ (fun _ => ((hS_14.far (by simpa using hn2) _).far (by simpa using hn2) _).far (by simpa using hn2) _) ?_
        (try simp only [Act.put, List.setIfInBounds_toArray, List.set_cons_zero, List.set_cons_succ])
        refine wpAnyN_one (i := 7) (by kernel_rfl) rfl (fun K hK => ?_)
        simp only [List.getElem_toArray, List.getElem_cons_zero, List.getElem_cons_succ]
        go_simp
        refine hK _ _ (fun h => absurd h (by decide)) ?_
        (try simp only [Act.put, List.setIfInBounds_toArray, List.set_cons_zero, List.set_cons_succ])
        refine wpAnyN_done (by kernel_rfl) ?_ _
        exact HK.out _ _ _ _ rfl HF.out.1 HF.out.2
      · simp only [List.getElem_toArray, List.getElem_cons_zero, List.getElem_cons_succ]
        go_simp
        obtain ⟨X15, hX15⟩ : ∃ X, Hid (X = X12.alloc (.cells #[.slice none 0 0, .int .i64 0, .slice none 0 0] 25)) := ⟨_, rfl⟩
        have hbx : Below X12.heap.size X12 X15 := by rw [hX15.out]; exact bAlloc _ _
        obtain ⟨q5, hq5⟩ : ∃ q, Hid (q = X12.heap.size) := ⟨_, rfl⟩
        have H4_15 : Hid (Blk X15 q5 25 #[.slice none 0 0, .int .i64 0, .slice none 0 0]) := Lib.hid (by rw [hX15.out, hq5.out]; exact Blk.new _ _ _)
        rw [← hX15.out, ← hq5.out]
        have hwq5 : w.heap.size ≤ q5 := by rw [hq5.out]; exact HB_12.out.size
        have hne : q5 ≠ q6 := by have := H5_12.out.lt; have := hq5.out; omega
        have H5_15 := Lib.hid (H5_12.out.next hbx)
        have H1_15 := Lib.hid (H1_12.out.next hbx)
        have HS_15 := Lib.hid (HS_12.out.next hbx)
        have HB_15 := Lib.hid (bNext HB_12.out hbx)
        have hS_15 : (fun w' => Blk w' q2 25 #[.slice A s.envs.length c, .int .i64 s.e, .slice A1 s.chs.length c1]) X15 := Blk.next hS_12 hbx
        clear hbx hX15
        refine hK _ _ (fun _ => hS_15) ?_
        (try simp only [Act.put, List.setIfInBounds_toArray, List.set_cons_zero, List.set_cons_succ])
        refine wpAnyN_one (i := 3) (by kernel_rfl) rfl (fun K hK => ?_)
        simp only [List.getElem_toArray, List.getElem_cons_zero, List.getElem_cons_succ]
        go_simp
        refine (clone_any s X15 HS_15.out HG.out.envs HG.out.chs HGY.out HCH.out).mono ?_
        rintro e X16 ⟨⟨ve', vc', ys', cs', rfl, hsv⟩, hbx⟩
        obtain ⟨D', d', rfl, -⟩ := own_form hsv.envs
        obtain ⟨E', e', rfl, -⟩ := own_form hsv.chs
        have H3_16 := Lib.hid hsv
        have LZ := Lib.hid (fun q (g : Nat) (hg : g ∈ foot q (.slice D s.envs.length d) (.slice E s.chs.length e) ys cs) => (H1_15.out.lt g hg).imp id And.right)
        have hwz := HB_15.out.size
        have H4_16 := Lib.hid (H4_15.out.next hbx)
        have H5_16 := Lib.hid (H5_15.out.next hbx)
        have H1_16 := Lib.hid (H1_15.out.next hbx)
        have HS_16 := Lib.hid (HS_15.out.next hbx)
        have HB_16 := Lib.hid (bNext HB_15.out hbx)
        have hS_16 : (fun w' => Blk w' q2 25 #[.slice A s.envs.length c, .int .i64 s.e, .slice A1 s.chs.length c1]) X16 := Blk.next hS_15 hbx
        clear hbx hsv
        refine hK _ _ (fun _ => hS_16) ?_
        (try simp only [Act.put, List.setIfInBounds_toArray, List.set_cons_zero, List.set_cons_succ])
        have q5_0 := H4_16.out.cell 0
        have fq5_0 := H4_16.out.frozen 0
        have q5_1 := H4_16.out.cell 1
        have fq5_1 := H4_16.out.frozen 1
        have q5_2 := H4_16.out.cell 2
        have fq5_2 := H4_16.out.frozen 2
        have lq5 := H4_16.out.lt
        have q6_0 := H5_16.out.cell 0
        have fq6_0 := H5_16.out.frozen 0
        have q6_1 := H5_16.out.cell 1
        have fq6_1 := H5_16.out.frozen 1
        have q6_2 := H5_16.out.cell 2
        have fq6_2 := H5_16.out.frozen 2
        have lq6 := H5_16.out.lt
        simp at q5_0 q5_1 q5_2 q6_0 q6_1 q6_2
        have hF := leaf3 HB_16.out H1_16.out LZ.out H3_16.out hwz H4_16.out H5_16.out hwq5 hwq6 hne
        have HF := Lib.hid hF
        clear hF
        have hn2 : q2 ≠ q5 := by have := HQ2.out; omega
        refine wpAnyN_one (i := 6) (by kernel_rfl) rfl (fun K hK => ?_)
        simp only [List.getElem_toArray, List.getElem_cons_zero, List.getElem_cons_succ]
        go_simp
        refine hK _ _ (fun _ => ((hS_16.far (by simpa using hn2) _).far (by simpa using hn2) _).far (by simpa using hn2) _) ?_
        (try simp only [Act.put, List.setIfInBounds_toArray, List.set_cons_zero, List.set_cons_succ])
        refine wpAnyN_one (i := 7) (by kernel_rfl) rfl (fun K hK => ?_)
        simp only [List.getElem_toArray, List.getElem_cons_zero, List.getElem_cons_succ]
        go_simp
        refine hK _ _ (fun h => absurd h (by decide)) ?_
        (try simp only [Act.put, List.setIfInBounds_toArray, List.set_cons_zero, List.set_cons_succ])
        refine wpAnyN_done (by kernel_rfl) ?_ _
        exact HK.out _ _ _ _ rfl HF.out.1 HF.out.2
  · simp only [List.getElem_toArray, List.getElem_cons_zero, List.getElem_cons_succ]
    go_simp
    obtain ⟨X17, hX17⟩ : ∃ X, Hid (X = D0.alloc (.cells #[.slice none 0 0, .int .i64 0, .slice none 0 0] 25)) := ⟨_, rfl⟩
    have hbx : Below D0.heap.size D0 X17 := by rw [hX17.out]; exact bAlloc _ _
    obtain ⟨q5, hq5⟩ : ∃ q, Hid (q = D0.heap.size) := ⟨_, rfl⟩
    have H4_17 : Hid (Blk X17 q5 25 #[.slice none 0 0, .int .i64 0, .slice none 0 0]) := Lib.hid (by rw [hX17.out, hq5.out]; exact Blk.new _ _ _)
    rw [← hX17.out, ← hq5.out]
    have hwq5 : w.heap.size ≤ q5 := by rw [hq5.out]; exact HB0.out.size
    have HS_17 := Lib.hid (HS0.out.next hbx)
    have HB_17 := Lib.hid (bNext HB0.out hbx)
    have hS_17 : (fun w' => Blk w' q2 25 #[.slice A s.envs.length c, .int .i64 s.e, .slice A1 s.chs.length c1]) X17 := Blk.next hS0 hbx
    clear hbx hX17
    refine hK _ _ (fun _ => hS_17) ?_
    (try simp only [Act.put, List.setIfInBounds_toArray, List.set_cons_zero, List.set_cons_succ])
    refine wpAnyN_two (i := 1) (j := 5) (by kernel_rfl) rfl rfl (fun K hK => ?_) (fun K hK => ?_)
    · simp only [List.getElem_toArray, List.getElem_cons_zero, List.getElem_cons_succ]
      go_simp
      refine (clone_any s X17 HS_17.out HG.out.envs HG.out.chs HGY.out HCH.out).mono ?_
      rintro e X18 ⟨⟨ve, vc, ys, cs, rfl, hsv⟩, hbx⟩
      obtain ⟨D, d, rfl, -⟩ := own_form hsv.envs
      obtain ⟨E, e, rfl, -⟩ := own_form hsv.chs
      have H1_18 := Lib.hid (show StkV X18 w.heap.size s _ _ ys cs from ⟨own_base hsv.envs HB_17.out.size, own_base hsv.chs HB_17.out.size, hsv.ylen, hsv.clen, fun i x v hx hv => own_base (hsv.yrow i x v hx hv) HB_17.out.size, fun i x v hx hv => ⟨own_base (hsv.crow i x v hx hv).1 HB_17.out.size, own_base (hsv.crow i x v hx hv).2 HB_17.out.size⟩, hsv.nodup⟩)
      have H4_18 := Lib.hid (H4_17.out.next hbx)
      have HS_18 := Lib.hid (HS_17.out.next hbx)
      have HB_18 := Lib.hid (bNext HB_17.out hbx)
      have hS_18 : (fun w' => Blk w' q2 25 #[.slice A s.envs.length c, .int .i64 s.e, .slice A1 s.chs.length c1]) X18 := Blk.next hS_17 hbx
      clear hbx hsv
      refine hK _ _ (fun _ => hS_18) ?_
      (try simp only [Act.put, List.setIfInBounds_toArray, List.set_cons_zero, List.set_cons_succ])
      refine wpAnyN_two (i := 3) (j := 5) (by kernel_rfl) rfl rfl (fun K hK => ?_) (fun K hK => ?_)
      · simp only [List.getElem_toArray, List.getElem_cons_zero, List.getElem_cons_succ]
        go_simp
        refine (clone_any s X18 HS_18.out HG.out.envs HG.out.chs HGY.out HCH.out).mono ?_
        rintro e X19 ⟨⟨ve', vc', ys', cs', rfl, hsv⟩, hbx⟩
        obtain ⟨D', d', rfl, -⟩ := own_form hsv.envs
        obtain ⟨E', e', rfl, -⟩ := own_form hsv.chs
        have H3_19 := Lib.hid hsv
        have LZ := Lib.hid (fun q (g : Nat) (hg : g ∈ foot q (.slice D s.envs.length d) (.slice E s.chs.length e) ys cs) => (H1_18.out.lt g hg).imp id And.right)
        have hwz := HB_18.out.size
        have H1_19 := Lib.hid (H1_18.out.next hbx)
        have H4_19 := Lib.hid (H4_18.out.next hbx)
        have HS_19 := Lib.hid (HS_18.out.next hbx)
        have HB_19 := Lib.hid (bNext HB_18.out hbx)
        have hS_19 : (fun w' => Blk w' q2 25 #[.slice A s.envs.length c, .int .i64 s.e, .slice A1 s.chs.length c1]) X19 := Blk.next hS_18 hbx
        clear hbx hsv
        refine hK _ _ (fun _ => hS_19) ?_
        (try simp only [Act.put, List.setIfInBounds_toArray, List.set_cons_zero, List.set_cons_succ])
        refine wpAnyN_one (i := 5) (by kernel_rfl) rfl (fun K hK => ?_)
        simp only [List.getElem_toArray, List.getElem_cons_zero, List.getElem_cons_succ]
        go_simp
        obtain ⟨X20, hX20⟩ : ∃ X, Hid (X = X19.alloc (.cells #[.slice none 0 0, .int .i64 0, .slice none 0 0] 25)) := ⟨_, rfl⟩
        have hbx : Below X19.heap.size X19 X20 := by rw [hX20.out]; exact bAlloc _ _
        obtain ⟨q6, hq6⟩ : ∃ q, Hid (q = X19.heap.size) := ⟨_, rfl⟩
        have H5_20 : Hid (Blk X20 q6 25 #[.slice none 0 0, .int .i64 0, .slice none 0 0]) := Lib.hid (by rw [hX20.out, hq6.out]; exact Blk.new _ _ _)
        rw [← hX20.out, ← hq6.out]
        have hwq6 : w.heap.size ≤ q6 := by rw [hq6.out]; exact HB_19.out.size
        have hne : q5 ≠ q6 := by have := H4_19.out.lt; have := hq6.out; omega
        have H3_20 := Lib.hid (H3_19.out.next hbx)
        have H1_20 := Lib.hid (H1_19.out.next hbx)
        have H4_20 := Lib.hid (H4_19.out.next hbx)
        have HS_20 := Lib.hid (HS_19.out.next hbx)
        have HB_20 := Lib.hid (bNext HB_19.out hbx)
        have hS_20 : (fun w' => Blk w' q2 25 #[.slice A s.envs.length c, .int .i64 s.e, .slice A1 s.chs.length c1]) X20 := Blk.next hS_19 hbx
        clear hbx hX20
        refine hK _ _ (fun _ => hS_20) ?_
        (try simp only [Act.put, List.setIfInBounds_toArray, List.set_cons_zero, List.set_cons_succ])
        have q5_0 := H4_20.out.cell 0
        have fq5_0 := H4_20.out.frozen 0
        have q5_1 := H4_20.out.cell 1
        have fq5_1 := H4_20.out.frozen 1
        have q5_2 := H4_20.out.cell 2
        have fq5_2 := H4_20.out.frozen 2
        have lq5 := H4_20.out.lt
        have q6_0 := H5_20.out.cell 0
        have fq6_0 := H5_20.out.frozen 0
        have q6_1 := H5_20.out.cell 1
        have fq6_1 := H5_20.out.frozen 1
        have q6_2 := H5_20.out.cell 2
        have fq6_2 := H5_20.out.frozen 2
        have lq6 := H5_20.out.lt
        simp at q5_0 q5_1 q5_2 q6_0 q6_1 q6_2
        have hF := leaf3 HB_20.out H1_20.out LZ.out H3_20.out hwz H4_20.out H5_20.out hwq5 hwq6 hne
        have HF := Lib.hid hF
        clear hF
        have hn2 : q2 ≠ q5 := by have := HQ2.out; omega
        refine wpAnyN_one (i := 6) (by kernel_rfl) rfl (fun K hK => ?_)
        simp only [List.getElem_toArray, List.getElem_cons_zero, List.getElem_cons_succ]
        go_simp
        refine hK _ _ (fun _ => ((hS_20.far (by simpa using hn2) _).far (by simpa using hn2) _).far (by simpa using hn2) _) ?_
        (try simp only [Act.put, List.setIfInBounds_toArray, List.set_cons_zero, List.set_cons_succ])
        refine wpAnyN_one (i := 7) (by kernel_rfl) rfl (fun K hK => ?_)
        simp only [List.getElem_toArray, List.getElem_cons_zero, List.getElem_cons_succ]
        go_simp
        refine hK _ _ (fun h => absurd h (by decide)) ?_
        (try simp only [Act.put, List.setIfInBounds_toArray, List.set_cons_zero, List.set_cons_succ])
        refine wpAnyN_done (by kernel_rfl) ?_ _
        exact HK.out _ _ _ _ rfl HF.out.1 HF.out.2
      · simp only [List.getElem_toArray, List.getElem_cons_zero, List.getElem_cons_succ]
        go_simp
        obtain ⟨X21, hX21⟩ : ∃ X, Hid (X = X18.alloc (.cells #[.slice none 0 0, .int .i64 0, .slice none 0 0] 25)) := ⟨_, rfl⟩
        have hbx : Below X18.heap.size X18 X21 := by rw [hX21.out]; exact bAlloc _ _
        obtain ⟨q6, hq6⟩ : ∃ q, Hid (q = X18.heap.size) := ⟨_, rfl⟩
        have H5_21 : Hid (Blk X21 q6 25 #[.slice none 0 0, .int .i64 0, .slice none 0 0]) := Lib.hid (by rw [hX21.out, hq6.out]; exact Blk.new _ _ _)
        rw [← hX21.out, ← hq6.out]
        have hwq6 : w.heap.size ≤ q6 := by rw [hq6.out]; exact HB_18.out.size
        have hne : q5 ≠ q6 := by have := H4_18.out.lt; have := hq6.out; omega
        have H1_21 := Lib.hid (H1_18.out.next hbx)
        have H4_21 := Lib.hid (H4_18.out.next hbx)
        have HS_21 := Lib.hid (HS_18.out.next hbx)
        have HB_21 := Lib.hid (bNext HB_18.out hbx)
        have hS_21 : (fun w' => Blk w' q2 25 #[.slice A s.envs.length c, .int .i64 s.e, .slice A1 s.chs.length c1]) X21 := Blk.next hS_18 hbx
        clear hbx hX21
        refine hK _ _ (fun _ => hS_21) ?_
        (try simp only [Act.put, List.setIfInBounds_toArray, List.set_cons_zero, List.set_cons_succ])
        refine wpAnyN_one (i := 3) (by kernel_rfl) rfl (fun K hK => ?_)
        simp only [List.getElem_toArray, List.getElem_cons_zero, List.getElem_cons_succ]
        go_simp
        refine (clone_any s X21 HS_21.out HG.out.envs HG.out.chs HGY.out HCH.out).mono ?_
        rintro e X22 ⟨⟨ve', vc', ys', cs', rfl, hsv⟩, hbx⟩
        obtain ⟨D', d', rfl, -⟩ := own_form hsv.envs
        obtain ⟨E', e', rfl, -⟩ := own_form hsv.chs
        have H3_22 := Lib.hid hsv
        have LZ := Lib.hid (fun q (g : Nat) (hg : g ∈ foot q (.slice D s.envs.length d) (.slice E s.chs.length e) ys cs) => (H1_21.out.lt g hg).imp id And.right)
        have hwz := HB_21.out.size
        have H5_22 := Lib.hid (H5_21.out.next hbx)
        have H1_22 := Lib.hid (H1_21.out.next hbx)
        have H4_22 := Lib.hid (H4_21.out.next hbx)
        have HS_22 := Lib.hid (HS_21.out.next hbx)
        have HB_22 := Lib.hid (bNext HB_21.out hbx)
        have hS_22 : (fun w' => Blk w' q2 25 #[.slice A s.envs.length c, .int .i64 s.e, .slice A1 s.chs.length c1]) X22 := Blk.next hS_21 hbx
        clear hbx hsv
        refine hK _ _ (fun _ => hS_22) ?_
        (try simp only [Act.put, List.setIfInBounds_toArray, List.set_cons_zero, List.set_cons_succ])
        have q5_0 := H4_22.out.cell 0
        have fq5_0 := H4_22.out.frozen 0
        have q5_1 := H4_22.out.cell 1
        have fq5_1 := H4_22.out.frozen 1
        have q5_2 := H4_22.out.cell 2
        have fq5_2 := H4_22.out.frozen 2
        have lq5 := H4_22.out.lt
        have q6_0 := H5_22.out.cell 0
        have fq6_0 := H5_22.out.frozen 0
        have q6_1 := H5_22.out.cell 1
        have fq6_1 := H5_22.out.frozen 1
        have q6_2 := H5_22.out.cell 2
        have fq6_2 := H5_22.out.frozen 2
        have lq6 := H5_22.out.lt
        simp at q5_0 q5_1 q5_2 q6_0 q6_1 q6_2
        have hF := leaf3 HB_22.out H1_22.out LZ.out H3_22.out hwz H4_22.out H5_22.out hwq5 hwq6 hne
        have HF := Lib.hid hF
        clear hF
        have hn2 : q2 ≠ q5 := by have := HQ2.out; omega
        refine wpAnyN_one (i := 6) (by kernel_rfl) rfl (fun K hK => ?_)
        simp only [List.getElem_toArray, List.getElem_cons_zero, List.getElem_cons_succ]
        go_simp
        refine hK _ _ (fun _ => ((hS_22.far (by simpa using hn2) _).far (by simpa using hn2) _).far (by simpa using hn2) _) ?_
        (try simp only [Act.put, List.setIfInBounds_toArray, List.set_cons_zero, List.set_cons_succ])
        refine wpAnyN_one (i := 7) (by kernel_rfl) rfl (fun K hK => ?_)
        simp only [List.getElem_toArray, List.getElem_cons_zero, List.getElem_cons_succ]
        go_simp
        refine hK _ _ (fun h => absurd h (by decide)) ?_
        (try simp only [Act.put, List.setIfInBounds_toArray, List.set_cons_zero, List.set_cons_succ])
        refine wpAnyN_done (by kernel_rfl) ?_ _
        exact HK.out _ _ _ _ rfl HF.out.1 HF.out.2
    · simp only [List.getElem_toArray, List.getElem_cons_zero, List.getElem_cons_succ]
      go_simp
      obtain ⟨X23, hX23⟩ : ∃ X, Hid (X = X17.alloc (.cells #[.slice none 0 0, .int .i64 0, .slice none 0 0] 25)) := ⟨_, rfl⟩
      have hbx : Below X17.heap.size X17 X23 := by rw [hX23.out]; exact bAlloc _ _
      obtain ⟨q6, hq6⟩ : ∃ q, Hid (q = X17.heap.size) := ⟨_, rfl⟩
      have H5_23 : Hid (Blk X23 q6 25 #[.slice none 0 0, .int .i64 0, .slice none 0 0]) := Lib.hid (by rw [hX23.out, hq6.out]; exact Blk.new _ _ _)
      rw [← hX23.out, ← hq6.out]
      have hwq6 : w.heap.size ≤ q6 := by rw [hq6.out]; exact HB_17.out.size
      have hne : q5 ≠ q6 := by have := H4_17.out.lt; have := hq6.out; omega
      have H4_23 := Lib.hid (H4_17.out.next hbx)
      have HS_23 := Lib.hid (HS_17.out.next hbx)
      have HB_23 := Lib.hid (bNext HB_17.out hbx)
      have hS_23 : (fun w' => Blk w' q2 25 #[.slice A s.envs.length c, .int .i64 s.e, .slice A1 s.chs.length c1]) X23 := Blk.next hS_17 hbx
      clear hbx hX23
      refine hK _ _ (fun _ => hS_23) ?_
      (try simp only [Act.put, List.setIfInBounds_toArray, List.set_cons_zero, List.set_cons_succ])
      refine wpAnyN_one (i := 1) (by kernel_rfl) rfl (fun K hK => ?_)
      simp only [List.getElem_toArray, List.getElem_cons_zero, List.getElem_cons_succ]
      go_simp
      refine (clone_any s X23 HS_23.out HG.out.envs HG.out.chs HGY.out HCH.out).mono ?_
      rintro e X24 ⟨⟨ve, vc, ys, cs, rfl, hsv⟩, hbx⟩
      obtain ⟨D, d, rfl, -⟩ := own_form hsv.envs
      obtain ⟨E, e, rfl, -⟩ := own_form hsv.chs
      have H1_24 := Lib.hid (show StkV X24 w.heap.size s _ _ ys cs from ⟨own_base hsv.envs HB_23.out.size, own_base hsv.chs HB_23.out.size, hsv.ylen, hsv.clen, fun i x v hx hv => own_base (hsv.yrow i x v hx hv) HB_23.out.size, fun i x v hx hv => ⟨own_base (hsv.crow i x v hx hv).1 HB_23.out.size, own_base (hsv.crow i x v hx hv).2 HB_23.out.size⟩, hsv.nodup⟩)
      have H5_24 := Lib.hid (H5_23.out.next hbx)
      have H4_24 := Lib.hid (H4_23.out.next hbx)
      have HS_24 := Lib.hid (HS_23.out.next hbx)
      have HB_24 := Lib.hid (bNext HB_23.out hbx)
      have hS_24 : (fun w' => Blk w' q2 25 #[.slice A s.envs.length c, .int .i64 s.e, .slice A1 s.chs.length c1]) X24 := Blk.next hS_23 hbx
      clear hbx hsv
      refine hK _ _ (fun _ => hS_24) ?_
      (try simp only [Act.put, List.setIfInBounds_toArray, List.set_cons_zero, List.set_cons_succ])
      refine wpAnyN_one (i := 3) (by kernel_rfl) rfl (fun K hK => ?_)
      simp only [List.getElem_toArray, List.getElem_cons_zero, List.getElem_cons_succ]
      go_simp
      refine (clone_any s X24 HS_24.out HG.out.envs HG.out.chs HGY.out HCH.out).mono ?_
      rintro e X25 ⟨⟨ve', vc', ys', cs', rfl, hsv⟩, hbx⟩
      obtain ⟨D', d', rfl, -⟩ := own_form hsv.envs
      obtain ⟨E', e', rfl, -⟩ := own_form hsv.chs
      have H3_25 := Lib.hid hsv
      have LZ := Lib.hid (fun q (g : Nat) (hg : g ∈ foot q (.slice D s.envs.length d) (.slice E s.chs.length e) ys cs) => (H1_24.out.lt g hg).imp id And.right)
      have hwz := HB_24.out.size
      have H1_25 := Lib.hid (H1_24.out.next hbx)
      have H5_25 := Lib.hid (H5_24.out.next hbx)
      have H4_25 := Lib.hid (H4_24.out.next hbx)
      have HS_25 := Lib.hid (HS_24.out.next hbx)
      have HB_25 := Lib.hid (bNext HB_24.out hbx)
      have hS_25 : (fun w' => Blk w' q2 25 #[.slice A s.envs.length c, .int .i64 s.e, .slice A1 s.chs.length c1]) X25 := Blk.next hS_24 hbx
      clear hbx hsv
      refine hK _ _ (fun _ => hS_25) ?_
      (try simp only [Act.put, List.setIfInBounds_toArray, List.set_cons_zero, List.set_cons_succ])
      have q5_0 := H4_25.out.cell 0
      have fq5_0 := H4_25.out.frozen 0
      have q5_1 := H4_25.out.cell 1
      have fq5_1 := H4_25.out.frozen 1
      have q5_2 := H4_25.out.cell 2
      have fq5_2 := H4_25.out.frozen 2
      have lq5 := H4_25.out.lt
      have q6_0 := H5_25.out.cell 0
      have fq6_0 := H5_25.out.frozen 0
      have q6_1 := H5_25.out.cell 1
      have fq6_1 := H5_25.out.frozen 1
      have q6_2 := H5_25.out.cell 2
      have fq6_2 := H5_25.out.frozen 2
      have lq6 := H5_25.out.lt
      simp at q5_0 q5_1 q5_2 q6_0 q6_1 q6_2
      have hF := leaf3 HB_25.out H1_25.out LZ.out H3_25.out hwz H4_25.out H5_25.out hwq5 hwq6 hne
      have HF := Lib.hid hF
      clear hF
      have hn2 : q2 ≠ q5 := by have := HQ2.out; omega
      refine wpAnyN_one (i := 6) (by kernel_rfl) rfl (fun K hK => ?_)
      simp only [List.getElem_toArray, List.getElem_cons_zero, List.getElem_cons_succ]
      go_simp
      refine hK _ _ (fun _ => ((hS_25.far (by simpa using hn2) _).far (by simpa using hn2) _).far (by simpa using hn2) _) ?_
      (try simp only [Act.put, List.setIfInBounds_toArray, List.set_cons_zero, List.set_cons_succ])
      refine wpAnyN_one (i := 7) (by kernel_rfl) rfl (fun K hK => ?_)
      simp only [List.getElem_toArray, List.getElem_cons_zero, List.getElem_cons_succ]
      go_simp
      refine hK _ _ (fun h => absurd h (by decide)) ?_
      (try simp only [Act.put, List.setIfInBounds_toArray, List.set_cons_zero, List.set_cons_succ])
      refine wpAnyN_done (by kernel_rfl) ?_ _
      exact HK.out _ _ _ _ rfl HF.out.1 HF.out.2
  · simp only [List.getElem_toArray, List.getElem_cons_zero, List.getElem_cons_succ]
    go_simp
    obtain ⟨X26, hX26⟩ : ∃ X, Hid (X = D0.alloc (.cells #[.slice none 0 0, .int .i64 0, .slice none 0 0] 25)) := ⟨_, rfl⟩
    have hbx : Below D0.heap.size D0 X26 := by rw [hX26.out]; exact bAlloc _ _
    obtain ⟨q6, hq6⟩ : ∃ q, Hid (q = D0.heap.size) := ⟨_, rfl⟩
    have H5_26 : Hid (Blk X26 q6 25 #[.slice none 0 0, .int .i64 0, .slice none 0 0]) := Lib.hid (by rw [hX26.out, hq6.out]; exact Blk.new _ _ _)
    rw [← hX26.out, ← hq6.out]
    have hwq6 : w.heap.size ≤ q6 := by rw [hq6.out]; exact HB0.out.size
    have HS_26 := Lib.hid (HS0.out.next hbx)
    have HB_26 := Lib.hid (bNext HB0.out hbx)
    have hS_26 : (fun w' => Blk w' q2 25 #[.slice A s.envs.length c, .int .i64 s.e, .slice A1 s.chs.length c1]) X26 := Blk.next hS0 hbx
    clear hbx hX26
    refine hK _ _ (fun _ => hS_26) ?_
    (try simp only [Act.put, List.setIfInBounds_toArray, List.set_cons_zero, List.set_cons_succ])
    refine wpAnyN_two (i := 1) (j := 4) (by kernel_rfl) rfl rfl (fun K hK => ?_) (fun K hK => ?_)
    · simp only [List.getElem_toArray, List.getElem_cons_zero, List.getElem_cons_succ]
      go_simp
      refine (clone_any s X26 HS_26.out HG.out.envs HG.out.chs HGY.out HCH.out).mono ?_
      rintro e X27 ⟨⟨ve, vc, ys, cs, rfl, hsv⟩, hbx⟩
      obtain ⟨D, d, rfl, -⟩ := own_form hsv.envs
      obtain ⟨E, e, rfl, -⟩ := own_form hsv.chs
      have H1_27 := Lib.hid (show StkV X27 w.heap.size s _ _ ys cs from ⟨own_base hsv.envs HB_26.out.size, own_base hsv.chs HB_26.out.size, hsv.ylen, hsv.clen, fun i x v hx hv => own_base (hsv.yrow i x v hx hv) HB_26.out.size, fun i x v hx hv => ⟨own_base (hsv.crow i x v hx hv).1 HB_26.out.size, own_base (hsv.crow i x v hx hv).2 HB_26.out.size⟩, hsv.nodup⟩)
      have H5_27 := Lib.hid (H5_26.out.next hbx)
      have HS_27 := Lib.hid (HS_26.out.next hbx)
      have HB_27 := Lib.hid (bNext HB_26.out hbx)
      have hS_27 : (fun w' => Blk w' q2 25 #[.slice A s.envs.length c, .int .i64 s.e, .slice A1 s.chs.length c1]) X27 := Blk.next hS_26 hbx
      clear hbx hsv
      refine hK _ _ (fun _ => hS_27) ?_
      (try simp only [Act.put, List.setIfInBounds_toArray, List.set_cons_zero, List.set_cons_succ])
      refine wpAnyN_two (i := 3) (j := 4) (by kernel_rfl) rfl rfl (fun K hK => ?_) (fun K hK => ?_)
      · simp only [List.getElem_toArray, List.getElem_cons_zero, List.getElem_cons_succ]
        go_simp
        refine (clone_any s X27 HS_27.out HG.out.envs HG.out.chs HGY.out HCH.out).mono ?_
        rintro e X28 ⟨⟨ve', vc', ys', cs', rfl, hsv⟩, hbx⟩
        obtain ⟨D', d', rfl, -⟩ := own_form hsv.envs
        obtain ⟨E', e', rfl, -⟩ := own_form hsv.chs
        have H3_28 := Lib.hid hsv
        have LZ := Lib.hid (fun q (g : Nat) (hg : g ∈ foot q (.slice D s.envs.length d) (.slice E s.chs.length e) ys cs) => (H1_27.out.lt g hg).imp id And.right)
        have hwz := HB_27.out.size
        have H1_28 := Lib.hid (H1_27.out.next hbx)
        have H5_28 := Lib.hid (H5_27.out.next hbx)
        have HS_28 := Lib.hid (HS_27.out.next hbx)
        have HB_28 := Lib.hid (bNext HB_27.out hbx)
        have hS_28 : (fun w' => Blk w' q2 25 #[.slice A s.envs.length c, .int .i64 s.e, .slice A1 s.chs.length c1]) X28 := Blk.next hS_27 hbx
        clear hbx hsv
        refine hK _ _ (fun _ => hS_28) ?_
        (try simp only [Act.put, List.setIfInBounds_toArray, List.set_cons_zero, List.set_cons_succ])
        refine wpAnyN_one (i := 4) (by kernel_rfl) rfl (fun K hK => ?_)
        simp only [List.getElem_toArray, List.getElem_cons_zero, List.getElem_cons_succ]
        go_simp
        obtain ⟨X29, hX29⟩ : ∃ X, Hid (X = X28.alloc (.cells #[.slice none 0 0, .int .i64 0, .slice none 0 0] 25)) := ⟨_, rfl⟩
        have hbx : Below X28.heap.size X28 X29 := by rw [hX29.out]; exact bAlloc _ _
        obtain ⟨q5, hq5⟩ : ∃ q, Hid (q = X28.heap.size) := ⟨_, rfl⟩
        have H4_29 : Hid (Blk X29 q5 25 #[.slice none 0 0, .int .i64 0, .slice none 0 0]) := Lib.hid (by rw [hX29.out, hq5.out]; exact Blk.new _ _ _)
        rw [← hX29.out, ← hq5.out]
        have hwq5 : w.heap.size ≤ q5 := by rw [hq5.out]; exact HB_28.out.size
        have hne : q5 ≠ q6 := by have := H5_28.out.lt; have := hq5.out; omega
        have H3_29 := Lib.hid (H3_28.out.next hbx)
        have H1_29 := Lib.hid (H1_28.out.next hbx)
        have H5_29 := Lib.hid (H5_28.out.next hbx)
        have HS_29 := Lib.hid (HS_28.out.next hbx)
        have HB_29 := Lib.hid (bNext HB_28.out hbx)
        have hS_29 : (fun w' => Blk w' q2 25 #[.slice A s.envs.length c, .int .i64 s.e, .slice A1 s.chs.length c1]) X29 := Blk.next hS_28 hbx
        clear hbx hX29
        refine hK _ _ (fun _ => hS_29) ?_
        (try simp only [Act.put, List.setIfInBounds_toArray, List.set_cons_zero, List.set_cons_succ])
        have q5_0 := H4_29.out.cell 0
        have fq5_0 := H4_29.out.frozen 0
        have q5_1 := H4_29.out.cell 1
        have fq5_1 := H4_29.out.frozen 1
        have q5_2 := H4_29.out.cell 2
        have fq5_2 := H4_29.out.frozen 2
        have lq5 := H4_29.out.lt
        have q6_0 := H5_29.out.cell 0
        have fq6_0 := H5_29.out.frozen 0
        have q6_1 := H5_29.out.cell 1
        have fq6_1 := H5_29.out.frozen 1
        have q6_2 := H5_29.out.cell 2
        have fq6_2 := H5_29.out.frozen 2
        have lq6 := H5_29.out.lt
        simp at q5_0 q5_1 q5_2 q6_0 q6_1 q6_2
        have hF := leaf3 HB_29.out H1_29.out LZ.out H3_29.out hwz H4_29.out H5_29.out hwq5 hwq6 hne
        have HF := Lib.hid hF
        clear hF
        have hn2 : q2 ≠ q5 := by have := HQ2.out; omega
        refine wpAnyN_one (i := 6) (by kernel_rfl) rfl (fun K hK => ?_)
        simp only [List.getElem_toArray, List.getElem_cons_zero, List.getElem_cons_succ]
        go_simp
        refine hK _ _ (fun _ => ((hS_29.far (by simpa using hn2) _).far (by simpa using hn2) _).far (by simpa using hn2) _) ?_
        (try simp only [Act.put, List.setIfInBounds_toArray, List.set_cons_zero, List.set_cons_succ])
        refine wpAnyN_one (i := 7) (by kernel_rfl) rfl (fun K hK => ?_)
        simp only [List.getElem_toArray, List.getElem_cons_zero, List.getElem_cons_succ]
        go_simp
        refine hK _ _ (fun h => absurd h (by decide)) ?_
        (try simp only [Act.put, List.setIfInBounds_toArray, List.set_cons_zero, List.set_cons_succ])
        refine wpAnyN_done (by kernel_rfl) ?_ _
        exact HK.out _ _ _ _ rfl HF.out.1 HF.out.2
      · simp only [List.getElem_toArray, List.getElem_cons_zero, List.getElem_cons_succ]
        go_simp
        obtain ⟨X30, hX30⟩ : ∃ X, Hid (X = X27.alloc (.cells #[.slice none 0 0, .int .i64 0, .slice none 0 0] 25)) := ⟨_, rfl⟩
        have hbx : Below X27.heap.size X27 X30 := by rw [hX30.out]; exact bAlloc _ _
        obtain ⟨q5, hq5⟩ : ∃ q, Hid (q = X27.heap.size) := ⟨_, rfl⟩
        have H4_30 : Hid (Blk X30 q5 25 #[.slice none 0 0, .int .i64 0, .slice none 0 0]) := Lib.hid (by rw [hX30.out, hq5.out]; exact Blk.new _ _ _)
        rw [← hX30.out, ← hq5.out]
        have hwq5 : w.heap.size ≤ q5 := by rw [hq5.out]; exact HB_27.out.size
        have hne : q5 ≠ q6 := by have := H5_27.out.lt; have := hq5.out; omega
        have H1_30 := Lib.hid (H1_27.out.next hbx)
        have H5_30 := Lib.hid (H5_27.out.next hbx)
        have HS_30 := Lib.hid (HS_27.out.next hbx)
        have HB_30 := Lib.hid (bNext HB_27.out hbx)
        have hS_30 : (fun w' => Blk w' q2 25 #[.slice A s.envs.length c, .int .i64 s.e, .slice A1 s.chs.length c1]) X30 := Blk.next hS_27 hbx
        clear hbx hX30
        refine hK _ _ (fun _ => hS_30) ?_
        (try simp only [Act.put, List.setIfInBounds_toArray, List.set_cons_zero, List.set_cons_succ])
        refine wpAnyN_one (i := 3) (by kernel_rfl) rfl (fun K hK => ?_)
        simp only [List.getElem_toArray, List.getElem_cons_zero, List.getElem_cons_succ]
        go_simp
        refine (clone_any s X30 HS_30.out HG.out.envs HG.out.chs HGY.out HCH.out).mono ?_
        rintro e X31 ⟨⟨ve', vc', ys', cs', rfl, hsv⟩, hbx⟩
        obtain ⟨D', d', rfl, -⟩ := own_form hsv.envs
        obtain ⟨E', e', rfl, -⟩ := own_form hsv.chs
        have H3_31 := Lib.hid hsv
        have LZ := Lib.hid (fun q (g : Nat) (hg : g ∈ foot q (.slice D s.envs.length d) (.slice E s.chs.length e) ys cs) => (H1_30.out.lt g hg).imp id And.right)
        have hwz := HB_30.out.size
        have H4_31 := Lib.hid (H4_30.out.next hbx)
        have H1_31 := Lib.hid (H1_30.out.next hbx)
        have H5_31 := Lib.hid (H5_30.out.next hbx)
        have HS_31 := Lib.hid (HS_30.out.next hbx)
        have HB_31 := Lib.hid (bNext HB_30.out hbx)
        have hS_31 : (fun w' => Blk w' q2 25 #[.slice A s.envs.length c, .int .i64 s.e, .slice A1 s.chs.length c1]) X31 := Blk.next hS_30 hbx
        clear hbx hsv
        refine hK _ _ (fun _ => hS_31) ?_
        (try simp only [Act.put, List.setIfInBounds_toArray, List.set_cons_zero, List.set_cons_succ])
        have q5_0 := H4_31.out.cell 0
        have fq5_0 := H4_31.out.frozen 0
        have q5_1 := H4_31.out.cell 1
        have fq5_1 := H4_31.out.frozen 1
        have q5_2 := H4_31.out.cell 2
        have fq5_2 := H4_31.out.frozen 2
        have lq5 := H4_31.out.lt
        have q6_0 := H5_31.out.cell 0
        have fq6_0 := H5_31.out.frozen 0
        have q6_1 := H5_31.out.cell 1
        have fq6_1 := H5_31.out.frozen 1
        have q6_2 := H5_31.out.cell 2
        have fq6_2 := H5_31.out.frozen 2
        have lq6 := H5_31.out.lt
        simp at q5_0 q5_1 q5_2 q6_0 q6_1 q6_2
        have hF := leaf3 HB_31.out H1_31.out LZ.out H3_31.out hwz H4_31.out H5_31.out hwq5 hwq6 hne
        have HF := Lib.hid hF
        clear hF
        have hn2 : q2 ≠ q5 := by have := HQ2.out; omega
        refine wpAnyN_one (i := 6) (by kernel_rfl) rfl (fun K hK => ?_)
        simp only [List.getElem_toArray, List.getElem_cons_zero, List.getElem_cons_succ]
        go_simp
        refine hK _ _ (fun _ => ((hS_31.far (by simpa using hn2) _).far (by simpa using hn2) _).far (by simpa using hn2) _) ?_
        (try simp only [Act.put, List.setIfInBounds_toArray, List.set_cons_zero, List.set_cons_succ])
        refine wpAnyN_one (i := 7) (by kernel_rfl) rfl (fun K hK => ?_)
        simp only [List.getElem_toArray, List.getElem_cons_zero, List.getElem_cons_succ]
        go_simp
        refine hK _ _ (fun h => absurd h (by decide)) ?_
        (try simp only [Act.put, List.setIfInBounds_toArray, List.set_cons_zero, List.set_cons_succ])
        refine wpAnyN_done (by kernel_rfl) ?_ _
        exact HK.out _ _ _ _ rfl HF.out.1 HF.out.2
    · simp only [List.getElem_toArray, List.getElem_cons_zero, List.getElem_cons_succ]
      go_simp
      obtain ⟨X32, hX32⟩ : ∃ X, Hid (X = X26.alloc (.cells #[.slice none 0 0, .int .i64 0, .slice none 0 0] 25)) := ⟨_, rfl⟩
      have hbx : Below X26.heap.size X26 X32 := by rw [hX32.out]; exact bAlloc _ _
      obtain ⟨q5, hq5⟩ : ∃ q, Hid (q = X26.heap.size) := ⟨_, rfl⟩
      have H4_32 : Hid (Blk X32 q5 25 #[.slice none 0 0, .int .i64 0, .slice none 0 0]) := Lib.hid (by rw [hX32.out, hq5.out]; exact Blk.new _ _ _)
      rw [← hX32.out, ← hq5.out]
      have hwq5 : w.heap.size ≤ q5 := by rw [hq5.out]; exact HB_26.out.size
      have hne : q5 ≠ q6 := by have := H5_26.out.lt; have := hq5.out; omega
      have H5_32 := Lib.hid (H5_26.out.next hbx)
      have HS_32 := Lib.hid (HS_26.out.next hbx)
      have HB_32 := Lib.hid (bNext HB_26.out hbx)
      have hS_32 : (fun w' => Blk w' q2 25 #[.slice A s.envs.length c, .int .i64 s.e, .slice A1 s.chs.length c1]) X32 := Blk.next hS_26 hbx
      clear hbx hX32
      refine hK _ _ (fun _ => hS_32) ?_
      (try simp only [Act.put, List.setIfInBounds_toArray, List.set_cons_zero, List.set_cons_succ])
      refine wpAnyN_one (i := 1) (by kernel_rfl) rfl (fun K hK => ?_)
      simp only [List.getElem_toArray, List.getElem_cons_zero, List.getElem_cons_succ]
      go_simp
      refine (clone_any s X32 HS_32.out HG.out.envs HG.out.chs HGY.out HCH.out).mono ?_
      rintro e X33 ⟨⟨ve, vc, ys, cs, rfl, hsv⟩, hbx⟩
      obtain ⟨D, d, rfl, -⟩ := own_form hsv.envs
      obtain ⟨E, e, rfl, -⟩ := own_form hsv.chs
      have H1_33 := Lib.hid (show StkV X33 w.heap.size s _ _ ys cs from ⟨own_base hsv.envs HB_32.out.size, own_base hsv.chs HB_32.out.size, hsv.ylen, hsv.clen, fun i x v hx hv => own_base (hsv.yrow i x v hx hv) HB_32.out.size, fun i x v hx hv => ⟨own_base (hsv.crow i x v hx hv).1 HB_32.out.size, own_base (hsv.crow i x v hx hv).2 HB_32.out.size⟩, hsv.nodup⟩)
      have H4_33 := Lib.hid (H4_32.out.next hbx)
      have H5_33 := Lib.hid (H5_32.out.next hbx)
      have HS_33 := Lib.hid (HS_32.out.next hbx)
      have HB_33 := Lib.hid (bNext HB_32.out hbx)
      have hS_33 : (fun w' => Blk w' q2 25 #[.slice A s.envs.length c, .int .i64 s.e, .slice A1 s.chs.length c1]) X33 := Blk.next hS_32 hbx
      clear hbx hsv
      refine hK _ _ (fun _ => hS_33) ?_
      (try simp only [Act.put, List.setIfInBounds_toArray, List.set_cons_zero, List.set_cons_succ])
      refine wpAnyN_one (i := 3) (by kernel_rfl) rfl (fun K hK => ?_)
      simp only [List.getElem_toArray, List.getElem_cons_zero, List.getElem_cons_succ]
      go_simp
      refine (clone_any s X33 HS_33.out HG.out.envs HG.out.chs HGY.out HCH.out).mono ?_
      rintro e X34 ⟨⟨ve', vc', ys', cs', rfl, hsv⟩, hbx⟩
      obtain ⟨D', d', rfl, -⟩ := own_form hsv.envs
      obtain ⟨E', e', rfl, -⟩ := own_form hsv.chs
      have H3_34 := Lib.hid hsv
      have LZ := Lib.hid (fun q (g : Nat) (hg : g ∈ foot q (.slice D s.envs.length d) (.slice E s.chs.length e) ys cs) => (H1_33.out.lt g hg).imp id And.right)
      have hwz := HB_33.out.size
      have H1_34 := Lib.hid (H1_33.out.next hbx)
      have H4_34 := Lib.hid (H4_33.out.next hbx)
      have H5_34 := Lib.hid (H5_33.out.next hbx)
      have HS_34 := Lib.hid (HS_33.out.next hbx)
      have HB_34 := Lib.hid (bNext HB_33.out hbx)
      have hS_34 : (fun w' => Blk w' q2 25 #[.slice A s.envs.length c, .int .i64 s.e, .slice A1 s.chs.length c1]) X34 := Blk.next hS_33 hbx
      clear hbx hsv
      refine hK _ _ (fun _ => hS_34) ?_
      (try simp only [Act.put, List.setIfInBounds_toArray, List.set_cons_zero, List.set_cons_succ])
      have q5_0 := H4_34.out.cell 0
      have fq5_0 := H4_34.out.frozen 0
      have q5_1 := H4_34.out.cell 1
      have fq5_1 := H4_34.out.frozen 1
      have q5_2 := H4_34.out.cell 2
      have fq5_2 := H4_34.out.frozen 2
      have lq5 := H4_34.out.lt
      have q6_0 := H5_34.out.cell 0
      have fq6_0 := H5_34.out.frozen 0
      have q6_1 := H5_34.out.cell 1
      have fq6_1 := H5_34.out.frozen 1
      have q6_2 := H5_34.out.cell 2
      have fq6_2 := H5_34.out.frozen 2
      have lq6 := H5_34.out.lt
      simp at q5_0 q5_1 q5_2 q6_0 q6_1 q6_2
      have hF := leaf3 HB_34.out H1_34.out LZ.out H3_34.out hwz H4_34.out H5_34.out hwq5 hwq6 hne
      have HF := Lib.hid hF
      clear hF
      have hn2 : q2 ≠ q5 := by have := HQ2.out; omega
      refine wpAnyN_one (i := 6) (by kernel_rfl) rfl (fun K hK => ?_)
      simp only [List.getElem_toArray, List.getElem_cons_zero, List.getElem_cons_succ]
      go_simp
      refine hK _ _ (fun _ => ((hS_34.far (by simpa using hn2) _).far (by simpa using hn2) _).far (by simpa using hn2) _) ?_
      (try simp only [Act.put, List.setIfInBounds_toArray, List.set_cons_zero, List.set_cons_succ])
      refine wpAnyN_one (i := 7) (by kernel_rfl) rfl (fun K hK => ?_)
      simp only [List.getElem_toArray, List.getElem_cons_zero, List.getElem_cons_succ]
      go_simp
      refine hK _ _ (fun h => absurd h (by decide)) ?_
      (try simp only [Act.put, List.setIfInBounds_toArray, List.set_cons_zero, List.set_cons_succ])
      refine wpAnyN_done (by kernel_rfl) ?_ _
      exact HK.out _ _ _ _ rfl HF.out.1 HF.out.2
end
section
open Go.RowKit

section
variable {p : St}
theorem alloc_chs (n id pc : Int) : (stOf p (allocV p n id pc)).chs = p.chs := by
  unfold allocV
  split
  · rfl
  · split <;> rfl
theorem free_chs : (freeS p (freeV p)).chs = p.chs := by
  unfold freeV
  split
  · split <;> rfl
  · rfl
theorem trim_chs (n : Int) : (stOf p (trimV p n)).chs = p.chs := by
  unfold trimV
  split
  · split
    · split
      · rfl
      · split <;> rfl
    · rfl
  · rfl
theorem set_chs (n : Int) (c : Cl) : (stOf p (setV p n c)).chs = p.chs := by
  unfold setV
  split
  · split
    · split
      · rfl
      · split
        · rfl
        · split <;> rfl
    · rfl
  · rfl
theorem pop_chs : (∀ c ∈ (popS p (popR p)).chs, c ∈ p.chs) ∧ (popC (popR p) = chO ∨ popC (popR p) ∈ p.chs) := by
  unfold popR
  cases h : p.chs.getLast? with
  | none => exact ⟨fun c hc => hc, .inl rfl⟩
  | some x => exact ⟨fun c hc => List.mem_of_mem_take hc, .inr (List.mem_of_getLast? h)⟩
theorem cut_chs (n : Int) : ∀ c ∈ (stOf p (cutV p n)).chs, c ∈ p.chs := by
  unfold cutV
  split
  · exact fun c hc => hc
  · exact fun c hc => List.mem_of_mem_take hc
theorem chsm_do (x : Sp) : (∀ c ∈ (doV p x).1.chs, c ∈ p.chs ∨ (c.args = x.ch.args ∧ c.alts = x.ch.alts)) ∧ ((doV p x).2.ch = chO ∨ (doV p x).2.ch ∈ p.chs) := by
  unfold doV
  split
  · exact ⟨fun c hc => .inl (by rw [alloc_chs] at hc; exact hc), .inl rfl⟩
  split
  · exact ⟨fun c hc => .inl (by rw [free_chs] at hc; exact hc), .inl rfl⟩
  split
  · exact ⟨fun c hc => .inl (by rw [trim_chs] at hc; exact hc), .inl rfl⟩
  split
  · exact ⟨fun c hc => .inl hc, .inl rfl⟩
  split
  · exact ⟨fun c hc => .inl (by rw [set_chs] at hc; exact hc), .inl rfl⟩
  split
  · refine ⟨fun c hc => ?_, .inl rfl⟩
    unfold pushV at hc
    split at hc
    · exact .inl hc
    · rcases List.mem_append.1 hc with h | h
      · exact .inl h
      · rw [List.mem_singleton] at h
        subst h
        exact .inr ⟨rfl, rfl⟩
  split
  · exact ⟨fun c hc => .inl (pop_chs.1 c hc), pop_chs.2⟩
  split
  · exact ⟨fun c hc => .inl (cut_chs _ c hc), .inl rfl⟩
  · exact ⟨fun c hc => .inl hc, .inl rfl⟩
end
/-- the rows of the choice points are not too long -/
def Bd (s : St) : Prop := ∀ x ∈ s.chs, x.args.length ≤ 8796093022208 ∧ x.alts.length ≤ 17592186044416
theorem bd_do {p : St} {x : Sp} (h : Bd p) (ha : x.ch.args.length ≤ 8796093022208) (hb : x.ch.alts.length ≤ 17592186044416) : Bd (doV p x).1 ∧ (doV p x).2.ch.args.length ≤ 8796093022208 ∧ (doV p x).2.ch.alts.length ≤ 17592186044416 := by
  obtain ⟨h1, h2⟩ := chsm_do (p := p) x
  refine ⟨fun c hc => ?_, ?_⟩
  · rcases h1 c hc with h3 | ⟨h3, h4⟩
    · exact h c h3
    · rw [h3, h4]; exact ⟨ha, hb⟩
  · rcases h2 with h3 | h3
    · rw [h3]; exact ⟨by decide, by decide⟩
    · exact h _ h3
end
section
open Go.RowKit

theorem VRet.bool' {s : St} {e : Ending} (h : VRet s e) : ∃ b, e = .returned (.bool b) ∧ (b = true ↔ Good s) := h
theorem range_of_blk {w : World} {g t : Nat} {cs : List Value} (h : Blk w g t cs.toArray) (o : Nat) {ds : List Value} (hd : ∀ (j : Nat) v, ds[j]? = some v → cs[o + j]? = some v) : w.rangeAt g o ds := fun j v hv => by
  rw [h.cell (o + j), List.getElem?_toArray]
  exact hd j v hv
theorem Kept.low {F : List Nat} {w w' : World} {B : Nat} (h : Kept F w w') (hF : ∀ g ∈ F, B ≤ g) (hB : B ≤ w.heap.size) : Below B w w' :=
  ⟨h.os, h.tape, h.output, h.size, fun g hg => h.block g (Nat.lt_of_lt_of_le hg hB) fun hm => by have := hF g hm; omega⟩
theorem own_neT {w : World} {base e size n t g : Nat} {v : Value} {xs : List Value} {cs : Array Value} (h : w.ownsRow base e size v n xs) (hb : Blk w g t cs) (ht : e ≠ t) {k : Nat} (hk : v.ownBlock = some k) : k ≠ g := by
  rintro rfl
  obtain ⟨c1, h2⟩ := own_ty h hk
  unfold Blk at hb
  rw [h2] at hb
  injection hb with hb
  injection hb with _ hb _
  exact ht hb
theorem one_all (l : List Value) (h : l.all (·.oneCell') = true) : l.toArray.all (·.oneCell') = true := by simpa using h
theorem Blk.kept {F : List Nat} {w w' : World} {g t : Nat} {cs : Array Value} (h : Blk w g t cs) (hk : Kept F w w') (hg : g ∉ F) : Blk w' g t cs := (hk.block g h.lt hg).trans h
theorem range_kept {F : List Nat} {w w' : World} {g o : Nat} {cs : List Value} (h : w.rangeAt g o cs) (hk : Kept F w w') (hl : g < w.heap.size) (hg : g ∉ F) : w'.rangeAt g o cs := fun j v hv => by
  rw [← h j v hv]
  unfold World.cell?
  rw [hk.block g hl hg]
theorem range_below {w w' : World} {g o : Nat} {cs : List Value} (h : w.rangeAt g o cs) (hb : Below w.heap.size w w') (hl : g < w.heap.size) : w'.rangeAt g o cs := range_kept h (Kept.below (F := []) hb) hl (fun h => by cases h)
/-- what a round leaves ahead of the spoil -/
structure PostR (B q5 q6 : Nat) (p : St) (o : Ov) (c1 c2 v1 v2 : Value) (F : List Nat) (w wx : World) : Prop where
  pair : PairA wx B q5 q6 p [c1, c2, v1, v2]
  r1 : wx.ownsRow 0 38 2 c1 o.ch.args.length (cCs o.ch.args)
  r2 : wx.ownsRow 0 2 1 c2 o.ch.alts.length (iCs o.ch.alts)
  kept : Kept F w wx
theorem blks_perm4 {g gc : Nat} {a b c d : Value} (h : g ∈ gc :: blks [a, b, c, d]) : g ∈ blks (.slice (some ⟨gc, 0, none⟩) 2 2 :: [c, d, a, b]) := by
  have e : blks (.slice (some ⟨gc, 0, none⟩) 2 2 :: [c, d, a, b]) = gc :: blks [c, d, a, b] := rfl
  rw [e]
  rcases List.mem_cons.1 h with rfl | h
  · exact List.mem_cons_self
  · refine List.mem_cons_of_mem _ ?_
    obtain ⟨v, hv, e⟩ := List.mem_filterMap.1 h
    exact List.mem_filterMap.2 ⟨v, by simp only [List.mem_cons, List.not_mem_nil, or_false] at hv ⊢; rcases hv with rfl | rfl | rfl | rfl <;> simp, e⟩
set_option maxHeartbeats 8000000 in
set_option maxRecDepth 100000 in
theorem law_plays (s : St) (A : Option Addr) (c : Nat) (A1 : Option Addr) (c1 : Nat) (Al : Option Addr) (cl : Nat) (l : List Sp) (w : World)
    (hs : StIn w A c A1 c1 s) (hl : StepsAt w Al l) (hll : l.length ≤ 10000000000000) :
    Calls Try.prog 6 #[stV s A c A1 c1, .slice Al l.length cl] w fun e w' => e = .returned (.bool true) ∧ Below w.heap.size w w' := by
  obtain ⟨i1, hi1, hz1, hy1, hb1'⟩ := info_parts info38
  obtain ⟨i2, hi2, hz2, hy2, hb2'⟩ := info_parts info2
  obtain ⟨W, HW⟩ : ∃ X, Hid (X = w.alloc (.cells #[.slice A s.envs.length c, .int .i64 s.e, .slice A1 s.chs.length c1] 25)) := ⟨_, rfl⟩
  have hbW : Below w.heap.size w W := by rw [HW.out]; exact bAlloc w _
  obtain ⟨q2, hq2⟩ : ∃ q, Hid (q = w.heap.size) := ⟨_, rfl⟩
  have hk2 : Blk W q2 25 #[.slice A s.envs.length c, .int .i64 s.e, .slice A1 s.chs.length c1] := by rw [HW.out, hq2.out]; exact Blk.new w _ _
  have HB := Lib.hid hbW
  have HS := Lib.hid hs
  have HL := Lib.hid hl
  have HK := Lib.hid hk2
  obtain ⟨a0, a1, a2⟩ : W.cell? ⟨q2, 0, none⟩ = some (.slice A s.envs.length c) ∧ W.cell? ⟨q2, 1, none⟩ = some (.int .i64 s.e) ∧ W.cell? ⟨q2, 2, none⟩ = some (.slice A1 s.chs.length c1) := ⟨by simpa using hk2.cell 0, by simpa using hk2.cell 1, by simpa using hk2.cell 2⟩
  have al := hk2.lt
  clear hbW hs hl hk2
  go_enter Try.func6, Try.ntmps6
  go_upto_region 1 with fail
  rw [← HW.out, ← hq2.out]
  clear HW
  go_wp2_with fail
  refine (valid_any W (HS.out.at'.next HB.out) HS.out.envs HS.out.chs HS.out.y).mono ?_
  rintro e w1 ⟨hv, hb1⟩
  obtain ⟨b, rfl, hbg⟩ := hv.bool'
  have HB1 := Lib.hid (bNext HB.out hb1)
  have HG := Lib.hid hbg
  have HK1 := Lib.hid (HK.out.next hb1)
  clear hv hb1 hbg a0 a1 a2 al HB HK
  cases b
  · go_wp2_with fail
    refine (awake_any w1).mono ?_
    rintro e w2 ⟨rfl, hb2⟩
    have HB2 := Lib.hid (bNext HB1.out hb2)
    clear hb2
    go_wp2_with fail
    go_ret
    exact ⟨rfl, HB2.out⟩
  have HGD := Lib.hid (HG.out.1 rfl)
  have HBD := Lib.hid (show Bd s from HS.out.ch)
  clear HG
  go_upto_region 3 with fail
  rename_i K3 hK3
  refine region3 (HS.out.at'.next HB1.out) HK1.out HGD.out HS.out.ch K3 _ (fun _ _ d _ _ h => by cases d <;> exact h) _ rfl fun q5 q6 tl' W3 hl3 hb3 hp3 => hK3 _ _ ?_
  obtain ⟨B, hB⟩ : ∃ B, Hid (B = w1.heap.size) := ⟨_, rfl⟩
  have hwB : w.heap.size ≤ B := by rw [hB.out]; exact HB1.out.size
  rw [← hB.out] at hp3
  have HP3 := Lib.hid hp3
  have HB3 := Lib.hid (bNext HB1.out hb3)
  clear hp3 hb3 HB1 hK3
  revert hl3
  revert tl'
  refine fun tl' hl3 => all_of (P := fun tl' => Code.wp Try.prog _ _ ⟨((stV s A c A1 c1) :: .slice Al l.length cl :: .pointer (some ⟨q2, 0, none⟩) :: undef :: .bool false :: .pointer (some ⟨q5, 0, none⟩) :: .pointer (some ⟨q6, 0, none⟩) :: tl').toArray, []⟩ W3) 70 ?_ tl' hl3
  intro u7 u8 u9 u10 u11 u12 u13 u14 u15 u16 u17 u18 u19 u20 u21 u22 u23 u24 u25 u26 u27 u28 u29 u30 u31 u32 u33 u34 u35 u36 u37 u38 u39 u40 u41 u42 u43 u44 u45 u46 u47 u48 u49 u50 u51 u52 u53 u54 u55 u56 u57 u58 u59 u60 u61 u62 u63 u64 u65 u66 u67 u68 u69 u70 u71 u72 u73 u74 u75 u76
  show Code.wp Try.prog _ _ ⟨List.toArray ((stV s A c A1 c1) :: .slice Al l.length cl :: .pointer (some ⟨q2, 0, none⟩) :: undef :: .bool false :: .pointer (some ⟨q5, 0, none⟩) :: .pointer (some ⟨q6, 0, none⟩) :: u7 :: u8 :: u9 :: u10 :: u11 :: u12 :: u13 :: u14 :: u15 :: u16 :: u17 :: u18 :: u19 :: u20 :: u21 :: u22 :: u23 :: u24 :: u25 :: u26 :: u27 :: u28 :: u29 :: u30 :: u31 :: u32 :: u33 :: u34 :: u35 :: u36 :: u37 :: u38 :: u39 :: u40 :: u41 :: u42 :: u43 :: u44 :: u45 :: u46 :: u47 :: u48 :: u49 :: u50 :: u51 :: u52 :: u53 :: u54 :: u55 :: u56 :: u57 :: u58 :: u59 :: u60 :: u61 :: u62 :: u63 :: u64 :: u65 :: u66 :: u67 :: u68 :: u69 :: u70 :: u71 :: u72 :: u73 :: u74 :: u75 :: u76 :: []), []⟩ W3
  go_wp2_with fail
  refine wp_loop_ghost_k (fun m a wr => ∃ (k : Nat) (p : St) (v4 : Value) (tl : List Value), a = ⟨((stV s A c A1 c1) :: .slice Al l.length cl :: .pointer (some ⟨q2, 0, none⟩) :: undef :: v4 :: .pointer (some ⟨q5, 0, none⟩) :: .pointer (some ⟨q6, 0, none⟩) :: .int .i64 (k : Int) :: tl).toArray, []⟩ ∧ tl.length = 69 ∧ m = 60 - k ∧ k ≤ 60 ∧ Hid (Below w.heap.size w wr) ∧ Hid (Good p) ∧ Hid (Bd p) ∧ Hid (PairA wr B q5 q6 p [])) 60 ?st fun m a wr hrel J Kr hJ hKr => ?rd
  case st => exact ⟨0, s, _, _, rfl, rfl, rfl, by omega, HB3, HGD, HBD, HP3⟩
  case rd =>
    clear HB3 HP3
    obtain ⟨k, p, v4, tl, rfl, htl, rfl, hk, HI, HG, HBP, HPA⟩ := hrel
    have HJ := Lib.hid hJ
    clear hJ
    revert htl
    revert tl
    refine fun tl htl => all_of (P := fun tl => Code.wp Try.prog _ _ ⟨((stV s A c A1 c1) :: .slice Al l.length cl :: .pointer (some ⟨q2, 0, none⟩) :: undef :: v4 :: .pointer (some ⟨q5, 0, none⟩) :: .pointer (some ⟨q6, 0, none⟩) :: .int .i64 (k : Int) :: tl).toArray, []⟩ wr) 69 ?_ tl htl
    intro u8 u9 u10 u11 u12 u13 u14 u15 u16 u17 u18 u19 u20 u21 u22 u23 u24 u25 u26 u27 u28 u29 u30 u31 u32 u33 u34 u35 u36 u37 u38 u39 u40 u41 u42 u43 u44 u45 u46 u47 u48 u49 u50 u51 u52 u53 u54 u55 u56 u57 u58 u59 u60 u61 u62 u63 u64 u65 u66 u67 u68 u69 u70 u71 u72 u73 u74 u75 u76
    show Code.wp Try.prog _ _ ⟨List.toArray ((stV s A c A1 c1) :: .slice Al l.length cl :: .pointer (some ⟨q2, 0, none⟩) :: undef :: v4 :: .pointer (some ⟨q5, 0, none⟩) :: .pointer (some ⟨q6, 0, none⟩) :: .int .i64 (k : Int) :: u8 :: u9 :: u10 :: u11 :: u12 :: u13 :: u14 :: u15 :: u16 :: u17 :: u18 :: u19 :: u20 :: u21 :: u22 :: u23 :: u24 :: u25 :: u26 :: u27 :: u28 :: u29 :: u30 :: u31 :: u32 :: u33 :: u34 :: u35 :: u36 :: u37 :: u38 :: u39 :: u40 :: u41 :: u42 :: u43 :: u44 :: u45 :: u46 :: u47 :: u48 :: u49 :: u50 :: u51 :: u52 :: u53 :: u54 :: u55 :: u56 :: u57 :: u58 :: u59 :: u60 :: u61 :: u62 :: u63 :: u64 :: u65 :: u66 :: u67 :: u68 :: u69 :: u70 :: u71 :: u72 :: u73 :: u74 :: u75 :: u76 :: []), []⟩ wr
    go_upto_region 5 with fail
    go_cut [25] from 18 to 75 (fun s25 wx => s25 = .bool (decide (k < l.length ∧ k < 60)) ∧ wx = wr)
    case first =>
      by_cases h1 : k < l.length
      · by_cases h2 : k < 60
        · have h3 : decide (k < l.length ∧ k < 60) = true := decide_eq_true ⟨h1, h2⟩
          go_wp2_with fail
          go_meet
          exact ⟨by rw [h3]; first | done | (simp; omega) | simp, rfl⟩
        · have h3 : decide (k < l.length ∧ k < 60) = false := decide_eq_false fun h => h2 h.2
          go_wp2_with fail
          go_meet
          exact ⟨by rw [h3]; first | done | (simp; omega) | simp, rfl⟩
      · have h3 : decide (k < l.length ∧ k < 60) = false := decide_eq_false fun h => h1 h.1
        go_wp2_with fail
        go_meet
        exact ⟨by rw [h3]; first | done | (simp; omega) | simp, rfl⟩
    case rest =>
      obtain ⟨rfl, rfl⟩ := hcut
      by_cases hc : k < l.length ∧ k < 60
      · rw [decide_eq_true hc]
        obtain ⟨hlt, hlt6⟩ := hc
        obtain ⟨y, hy⟩ : ∃ y, l[k]? = some y := ⟨_, List.getElem?_eq_getElem hlt⟩
        obtain ⟨b, off, rfl, hb, hat⟩ := HL.out (by omega)
        obtain ⟨Ac, ac, Bc, bc, hz, hcr⟩ := hat k y hy
        obtain ⟨what, yn, yid, ypc, yc, ych⟩ := y
        have HZ := Lib.hid (show wc.rangeAt b (off + k * 17) [.int .i64 what, .int .i64 yn, .int .i64 yid, .int .i64 ypc, .int .i64 yc.tag, .int .i64 yc.n, .int .i64 ych.kind, .slice Ac ych.args.length ac, .int .i64 ych.env, .int .i64 ych.id, .int .i64 ych.pc, .int .i64 ych.cut, .int .i64 ych.mark, .int .i64 ych.top, .int .i64 ych.envs, .slice Bc ych.alts.length bc, .int .i64 ych.data] from fun j v hv => (HI.out.cell (p := ⟨b, off + k * 17 + j, none⟩) hb).trans (hz j v hv))
        have HCR := Lib.hid (hcr.next HI.out)
        have HCR0 := Lib.hid hcr
        have hbl : b < wc.heap.size := Nat.lt_of_lt_of_le hb HI.out.size
        have hbB : b < B := Nat.lt_of_lt_of_le hb hwB
        clear hz hcr hat hy
        have hbx := box_new wc 40 [.int .i64 0, .int .i64 0, .int .i64 0, .int .i64 0, .int .i64 0, .int .i64 0, .int .i64 0, .slice none 0 0, .int .i64 0, .int .i64 0, .int .i64 0, .int .i64 0, .int .i64 0, .int .i64 0, .int .i64 0, .slice none 0 0, .int .i64 0] [.int .i64 what, .int .i64 yn, .int .i64 yid, .int .i64 ypc, .int .i64 yc.tag, .int .i64 yc.n, .int .i64 ych.kind, .slice Ac ych.args.length ac, .int .i64 ych.env, .int .i64 ych.id, .int .i64 ych.pc, .int .i64 ych.cut, .int .i64 ych.mark, .int .i64 ych.top, .int .i64 ych.envs, .slice Bc ych.alts.length bc, .int .i64 ych.data] rfl
        obtain ⟨W8, HW8⟩ : ∃ X, Hid (X = (wc.alloc (.cells #[.int .i64 0, .int .i64 0, .int .i64 0, .int .i64 0, .int .i64 0, .int .i64 0, .int .i64 0, .slice none 0 0, .int .i64 0, .int .i64 0, .int .i64 0, .int .i64 0, .int .i64 0, .int .i64 0, .int .i64 0, .slice none 0 0, .int .i64 0] 40)).setCells wc.heap.size 0 [.int .i64 what, .int .i64 yn, .int .i64 yid, .int .i64 ypc, .int .i64 yc.tag, .int .i64 yc.n, .int .i64 ych.kind, .slice Ac ych.args.length ac, .int .i64 ych.env, .int .i64 ych.id, .int .i64 ych.pc, .int .i64 ych.cut, .int .i64 ych.mark, .int .i64 ych.top, .int .i64 ych.envs, .slice Bc ych.alts.length bc, .int .i64 ych.data]) := ⟨_, rfl⟩
        obtain ⟨q8, hq8⟩ : ∃ q, Hid (q = wc.heap.size) := ⟨_, rfl⟩
        have hk8 : Blk W8 q8 40 #[.int .i64 what, .int .i64 yn, .int .i64 yid, .int .i64 ypc, .int .i64 yc.tag, .int .i64 yc.n, .int .i64 ych.kind, .slice Ac ych.args.length ac, .int .i64 ych.env, .int .i64 ych.id, .int .i64 ych.pc, .int .i64 ych.cut, .int .i64 ych.mark, .int .i64 ych.top, .int .i64 ych.envs, .slice Bc ych.alts.length bc, .int .i64 ych.data] := by rw [HW8.out, hq8.out]; exact box_blk wc 40 [.int .i64 0, .int .i64 0, .int .i64 0, .int .i64 0, .int .i64 0, .int .i64 0, .int .i64 0, .slice none 0 0, .int .i64 0, .int .i64 0, .int .i64 0, .int .i64 0, .int .i64 0, .int .i64 0, .int .i64 0, .slice none 0 0, .int .i64 0] [.int .i64 what, .int .i64 yn, .int .i64 yid, .int .i64 ypc, .int .i64 yc.tag, .int .i64 yc.n, .int .i64 ych.kind, .slice Ac ych.args.length ac, .int .i64 ych.env, .int .i64 ych.id, .int .i64 ych.pc, .int .i64 ych.cut, .int .i64 ych.mark, .int .i64 ych.top, .int .i64 ych.envs, .slice Bc ych.alts.length bc, .int .i64 ych.data] rfl
        obtain ⟨-, hb8, hz8, ht8⟩ := hbx
        have hone : (#[.int .i64 what, .int .i64 yn, .int .i64 yid, .int .i64 ypc, .int .i64 yc.tag, .int .i64 yc.n, .int .i64 ych.kind, .slice Ac ych.args.length ac, .int .i64 ych.env, .int .i64 ych.id, .int .i64 ych.pc, .int .i64 ych.cut, .int .i64 ych.mark, .int .i64 ych.top, .int .i64 ych.envs, .slice Bc ych.alts.length bc, .int .i64 ych.data] : Array Value).all (·.oneCell') = true := by simp [Value.oneCell']
        have HT8 := Lib.hid ht8
        clear ht8
        go_upto_region 8 with (first | (refine wpList_load_mid rfl 40 (.tmp 30) rfl b (off + k * 17) rfl _ _ HZ.out Try.underlying40 rfl (by kernel_rfl) ?_) | (refine wpList_store_mid rfl 40 (.tmp 8) (.tmp 31) rfl wc.heap.size 0 #[.int .i64 what, .int .i64 yn, .int .i64 yid, .int .i64 ypc, .int .i64 yc.tag, .int .i64 yc.n, .int .i64 ych.kind, .slice Ac ych.args.length ac, .int .i64 ych.env, .int .i64 ych.id, .int .i64 ych.pc, .int .i64 ych.cut, .int .i64 ych.mark, .int .i64 ych.top, .int .i64 ych.envs, .slice Bc ych.alts.length bc, .int .i64 ych.data] rfl rfl HT8.out (by kernel_rfl) hone ?_))
        rw [← HW8.out, ← hq8.out]
        have hb8' : Below wc.heap.size wc W8 := by rw [HW8.out]; exact hb8
        have HX8 := Lib.hid hb8'
        have HK8 := Lib.hid hk8
        have HCR8 := Lib.hid (HCR.out.next hb8')
        have hq8z : wc.heap.size ≤ q8 := by rw [hq8.out]; exact Nat.le_refl _
        have hq8B : B ≤ wc.heap.size := HPA.out.low
        have HR1 := Lib.hid HCR8.out.2.2.2.2.1.row
        have HR2 := Lib.hid HCR8.out.2.2.2.2.2.row
        have hla := HCR8.out.2.2.1
        have hlb := HCR8.out.2.2.2.1
        have c7 := hk8.cell 7
        have l8 := hk8.lt
        simp at c7
        clear hone HT8 hb8 hz8 hb8' hk8 HW8
        go_wp2_with (at_builtin; refine wpList_append_src rfl _ _ 26 rfl W8.heap.size 38 i1 _ 2 16 Try.underlying26 hi1 hz1 hy1 hb1' rfl (by decide) (.slice none 0 0) 0 [] rfl (World.ownsRow_nil W8 W8.heap.size 38 2) Ac ych.args.length ac (cCs ych.args) rfl HCR8.out.1 ?c1 ?c2 ?c3 ?c4 ?c5 ?c6 ?_)
        case c1 => rw [cCs_len]
        case c2 => exact fun ad ha => HR1.out ad ha
        case c3 => exact c_one _
        case c4 => unfold maxLen; omega
        case c5 => omega
        intro v1 wa ho1 hg1 hat1
        try simp only [Nat.zero_add, List.nil_append] at ho1
        have hba : Below W8.heap.size W8 wa := (Below.refl _ _).grown hg1 (Nat.le_refl _) (fun k hk => by cases hk)
        obtain ⟨G1, g1, rfl, hcg1⟩ := own_form ho1
        have HO1 := Lib.hid ho1
        have HCG1 := Lib.hid hcg1
        have HKa := Lib.hid (HK8.out.next hba)
        have HXa := Lib.hid (bNext HX8.out hba)
        have HR2a := Lib.hid (HCR8.out.2.2.2.2.2.next hba)
        have e7 := HKa.out.cell 7
        have f7 := HKa.out.frozen 7
        have la := HKa.out.lt
        simp at e7
        have hz8a := hba.size
        clear ho1 hg1 hat1 hba hcg1 c7 HK8 HX8 HR1 HR2
        go_upto_region 9 with fail
        obtain ⟨W9, HW9⟩ : ∃ X, Hid (X = wa.setCell ⟨q8, 7, none⟩ (.slice G1 ych.args.length g1)) := ⟨_, rfl⟩
        rw [← HW9.out]
        have HK9 := Lib.hid (show Blk W9 q8 40 #[.int .i64 what, .int .i64 yn, .int .i64 yid, .int .i64 ypc, .int .i64 yc.tag, .int .i64 yc.n, .int .i64 ych.kind, .slice G1 ych.args.length g1, .int .i64 ych.env, .int .i64 ych.id, .int .i64 ych.pc, .int .i64 ych.cut, .int .i64 ych.mark, .int .i64 ych.top, .int .i64 ych.envs, .slice Bc ych.alts.length bc, .int .i64 ych.data] by rw [HW9.out]; simpa using HKa.out.set_ 7 (.slice G1 ych.args.length g1))
        have hs9 : Below wa.heap.size wa wa := Below.refl _ _
        have HX9 := Lib.hid (show Below wc.heap.size wc W9 by rw [HW9.out]; exact HXa.out.setCell hq8z _)
        have hne1 : ∀ g, Value.ownBlock (.slice G1 ych.args.length g1) = some g → g ≠ q8 := fun g hg => own_neT HO1.out HKa.out (by decide) hg
        have HO9 := Lib.hid (show W9.ownsRow W8.heap.size 38 2 (.slice G1 ych.args.length g1) ych.args.length (cCs ych.args) by rw [HW9.out]; exact own_stay HO1.out fun g hg => heap_setCell_other _ _ _ _ (hne1 g hg))
        have hz9 : W9.heap.size = wa.heap.size := by rw [HW9.out]; simp
        have HR9 := Lib.hid (IntsAt.row (HCR.out.2.2.2.2.2.next HX9.out))
        have c15 := HK9.out.cell 15
        have l9 := HK9.out.lt
        simp at c15
        clear hs9 e7 f7 la HW9 HKa HXa HO1 HR2a hne1
        go_wp2_with (at_builtin; refine wpList_append_src rfl _ _ 27 rfl W9.heap.size 2 i2 _ 1 8 Try.underlying27 hi2 hz2 hy2 hb2' rfl (by decide) (.slice none 0 0) 0 [] rfl (World.ownsRow_nil W9 W9.heap.size 2 1) Bc ych.alts.length bc (iCs ych.alts) rfl HCR8.out.2.1 ?d1 ?d2 ?d3 ?d4 ?d5 ?d6 ?_)
        case d1 => simp [iCs]
        case d2 => exact fun ad ha => HR9.out ad ha
        case d3 => exact i_one _
        case d4 => unfold maxLen; omega
        case d5 => omega
        case d6 => exact Nat.le_refl _
        intro v2 wb ho2 hg2 hat2
        try simp only [Nat.zero_add, List.nil_append] at ho2
        have hbb : Below W9.heap.size W9 wb := (Below.refl _ _).grown hg2 (Nat.le_refl _) (fun k hk => by cases hk)
        obtain ⟨G2, g2, rfl, hcg2⟩ := own_form ho2
        have HO2 := Lib.hid ho2
        have HCG2 := Lib.hid hcg2
        have HKb := Lib.hid (HK9.out.next hbb)
        have HXb := Lib.hid (bNext HX9.out hbb)
        have HO1b := Lib.hid (own_stay HO9.out fun g hg => hbb.block g (HO9.out.lt g hg).2)
        have e15 := HKb.out.cell 15
        have f15 := HKb.out.frozen 15
        have lb := HKb.out.lt
        simp at e15
        have hz9b := hbb.size
        clear ho2 hg2 hat2 hbb hcg2 c15 HK9 HX9 HR9 HO9
        go_upto_region 10 with fail
        obtain ⟨W10, HW10⟩ : ∃ X, Hid (X = wb.setCell ⟨q8, 15, none⟩ (.slice G2 ych.alts.length g2)) := ⟨_, rfl⟩
        rw [← HW10.out]
        have HK10 := Lib.hid (show Blk W10 q8 40 #[.int .i64 what, .int .i64 yn, .int .i64 yid, .int .i64 ypc, .int .i64 yc.tag, .int .i64 yc.n, .int .i64 ych.kind, .slice G1 ych.args.length g1, .int .i64 ych.env, .int .i64 ych.id, .int .i64 ych.pc, .int .i64 ych.cut, .int .i64 ych.mark, .int .i64 ych.top, .int .i64 ych.envs, .slice G2 ych.alts.length g2, .int .i64 ych.data] by rw [HW10.out]; simpa using HKb.out.set_ 15 (.slice G2 ych.alts.length g2))
        have HX10 := Lib.hid (show Below wc.heap.size wc W10 by rw [HW10.out]; exact HXb.out.setCell hq8z _)
        have hne1 : ∀ g, Value.ownBlock (.slice G1 ych.args.length g1) = some g → g ≠ q8 := fun g hg => own_neT HO1b.out HKb.out (by decide) hg
        have hne2 : ∀ g, Value.ownBlock (.slice G2 ych.alts.length g2) = some g → g ≠ q8 := fun g hg => own_neT HO2.out HKb.out (by decide) hg
        have hz10 : W10.heap.size = wb.heap.size := by rw [HW10.out]; simp
        have HV1 := Lib.hid (show W10.ownsRow wc.heap.size 38 2 (.slice G1 ych.args.length g1) ych.args.length (cCs ych.args) by rw [HW10.out]; exact own_base (own_stay HO1b.out fun g hg => heap_setCell_other _ _ _ _ (hne1 g hg)) (by omega))
        have HV2 := Lib.hid (show W10.ownsRow wc.heap.size 2 1 (.slice G2 ych.alts.length g2) ych.alts.length (iCs ych.alts) by rw [HW10.out]; exact own_base (own_stay HO2.out fun g hg => heap_setCell_other _ _ _ _ (hne2 g hg)) (by omega))
        clear e15 f15 lb HW10 HKb HXb HO1b HO2 hne1 hne2
        obtain ⟨ve5, vc5, ys5, cs5, ve6, vc6, ys6, cs6, hS5, hS6, hdis, -⟩ := HPA.out
        obtain ⟨F5, hF5⟩ : ∃ F, Hid (F = foot q5 ve5 vc5 ys5 cs5) := ⟨_, rfl⟩
        obtain ⟨F6, hF6⟩ : ∃ F, Hid (F = foot q6 ve6 vc6 ys6 cs6) := ⟨_, rfl⟩
        have hlt56 : (∀ g ∈ F5, g < wc.heap.size) ∧ ∀ g ∈ F6, g < wc.heap.size := by
          rw [hF5.out, hF6.out]
          exact ⟨hS5.foot_lt, hS6.foot_lt⟩
        have hge56 : (∀ g ∈ F5, B ≤ g) ∧ ∀ g ∈ F6, B ≤ g := by
          rw [hF5.out, hF6.out]
          exact ⟨hS5.foot_ge, hS6.foot_ge⟩
        rw [← hF5.out, ← hF6.out] at hdis
        have HDIS := Lib.hid hdis
        have H5 := Lib.hid (hS5.next HX10.out)
        have H6 := Lib.hid (hS6.next HX10.out)
        have HLT := Lib.hid hlt56
        have HGE := Lib.hid hge56
        have l10 := HK10.out.lt
        have HQF5 : Hid (q8 ∉ F5) := Lib.hid fun h => by have := HLT.out.1 q8 h; omega
        have HQF6 : Hid (q8 ∉ F6) := Lib.hid fun h => by have := HLT.out.2 q8 h; omega
        have HRG := Lib.hid (range_of_blk (cs := [.int .i64 what, .int .i64 yn, .int .i64 yid, .int .i64 ypc, .int .i64 yc.tag, .int .i64 yc.n, .int .i64 ych.kind, .slice G1 ych.args.length g1, .int .i64 ych.env, .int .i64 ych.id, .int .i64 ych.pc, .int .i64 ych.cut, .int .i64 ych.mark, .int .i64 ych.top, .int .i64 ych.envs, .slice G2 ych.alts.length g2, .int .i64 ych.data]) HK10.out 0 (ds := [.int .i64 what, .int .i64 yn, .int .i64 yid, .int .i64 ypc, .int .i64 yc.tag, .int .i64 yc.n, .int .i64 ych.kind, .slice G1 ych.args.length g1, .int .i64 ych.env, .int .i64 ych.id, .int .i64 ych.pc, .int .i64 ych.cut, .int .i64 ych.mark, .int .i64 ych.top, .int .i64 ych.envs, .slice G2 ych.alts.length g2, .int .i64 ych.data]) fun j v hv => by rw [Nat.zero_add]; exact hv)
        have hz10' := HX10.out.size
        clear hS5 hS6 hdis hlt56 hge56 HPA
        go_wp2_with (refine wpList_load_mid rfl 40 (.tmp 8) rfl q8 0 rfl _ _ HRG.out Try.underlying40 rfl (by kernel_rfl) ?_)
        refine (do_anyO (x := ych) (cl := yc) (Aa := G1) (Ab := G2) (ca := g1) (cb := g2) what yn yid ypc W10 H5.out HG.out.sized HCG1.out (own_cellsAt HV1.out).row hla HCG2.out (own_intsAt HV2.out).row hlb).mono ?_
        rintro e w11 ⟨⟨oc1, oc2⟩, rfl, hst, hkp⟩
        obtain ⟨p', hp'⟩ : ∃ p', Hid (p' = (doV p ⟨what, yn, yid, ypc, yc, ych⟩).1) := ⟨_, rfl⟩
        obtain ⟨o, ho⟩ : ∃ o, Hid (o = (doV p ⟨what, yn, yid, ypc, yc, ych⟩).2) := ⟨_, rfl⟩
        rw [← hp'.out, ← ho.out, ← hF5.out] at hst
        rw [← hF5.out] at hkp
        rw [← ho.out]
        have hst' := hst
        obtain ⟨_, _, _, _, -, -, ha1, ha2, hap⟩ := hst'
        obtain ⟨C1, cc1, rfl, -⟩ := own_form ha1
        obtain ⟨C2, cc2, rfl, -⟩ := own_form ha2
        have HOC := Lib.hid (show ∀ v ∈ [(.slice C1 o.ch.args.length cc1 : Value), .slice C2 o.ch.alts.length cc2, .slice G1 ych.args.length g1, .slice G2 ych.alts.length g2], ∀ g, v.ownBlock = some g → B ≤ g from fun v hv g hg => by
          simp only [List.mem_cons, List.not_mem_nil, or_false] at hv
          rcases hv with rfl | rfl | rfl | rfl
          · rcases (hap g (.inl hg)).2 with h | h
            · exact HGE.out.1 g h
            · omega
          · rcases (hap g (.inr hg)).2 with h | h
            · exact HGE.out.1 g h
            · omega
          · have := (HV1.out.lt g hg).1; omega
          · have := (HV2.out.lt g hg).1; omega)
        have HVB := Lib.hid (show (∀ g, Value.ownBlock (.slice G1 ych.args.length g1) = some g → wc.heap.size ≤ g ∧ g < W10.heap.size) ∧ ∀ g, Value.ownBlock (.slice G2 ych.alts.length g2) = some g → wc.heap.size ≤ g ∧ g < W10.heap.size from ⟨fun g hg => HV1.out.lt g hg, fun g hg => HV2.out.lt g hg⟩)
        have HST := Lib.hid hst
        have HKP := Lib.hid hkp
        have HG' := Lib.hid (show Good p' by rw [hp'.out]; exact good_do HG.out)
        have hbd := bd_do (x := ⟨what, yn, yid, ypc, yc, ych⟩) HBP.out hla hlb
        rw [← hp'.out, ← ho.out] at hbd
        have HBD' := Lib.hid hbd
        have HX11 := Lib.hid (show Below B W10 w11 from hkp.low HGE.out.1 (by omega))
        have hz11 := hkp.size
        have H6b := Lib.hid (H6.out.stayF fun g hg => hkp.block g (H6.out.foot_lt g hg) fun h => HDIS.out g h (by rw [hF6.out]; exact hg))
        have HV1b := Lib.hid (own_stay HV1.out fun g hg => hkp.block g (HV1.out.lt g hg).2 fun h => by have := HLT.out.1 g h; have := (HV1.out.lt g hg).1; omega)
        have HV2b := Lib.hid (own_stay HV2.out fun g hg => hkp.block g (HV2.out.lt g hg).2 fun h => by have := HLT.out.1 g h; have := (HV2.out.lt g hg).1; omega)
        have HRGb := Lib.hid (range_kept HRG.out hkp l10 HQF5.out)
        have HZb := Lib.hid (range_kept (range_below HZ.out HX10.out hbl) hkp (by omega) (fun h => by have := HGE.out.1 b h; omega))
        have HI11 := Lib.hid ((HI.out.trans (HX10.out.mono (by omega))).trans (HX11.out.mono hwB))
        have HCRb := Lib.hid (HCR0.out.next HI11.out)
        clear hst hkp ha1 ha2 hap H5 HV1 HV2 HRG HX10 HX11 HK10 HZ HCR HCR8 HI H6 hbd
        obtain ⟨hr9, hb9, hz9', ht9⟩ := box_new w11 42 [.int .i64 0, .int .i64 0, .int .i64 0, .int .i64 0, .int .i64 0, .slice none 0 0, .int .i64 0, .int .i64 0, .int .i64 0, .int .i64 0, .int .i64 0, .int .i64 0, .int .i64 0, .slice none 0 0, .int .i64 0, .int .i64 0] [.int .i64 o.id, .int .i64 o.pc, .int .i64 o.c.tag, .int .i64 o.c.n, .int .i64 o.ch.kind, .slice C1 o.ch.args.length cc1, .int .i64 o.ch.env, .int .i64 o.ch.id, .int .i64 o.ch.pc, .int .i64 o.ch.cut, .int .i64 o.ch.mark, .int .i64 o.ch.top, .int .i64 o.ch.envs, .slice C2 o.ch.alts.length cc2, .int .i64 o.ch.data, .int .i64 o.e] rfl
        obtain ⟨W12, HW12⟩ : ∃ X, Hid (X = (w11.alloc (.cells #[.int .i64 0, .int .i64 0, .int .i64 0, .int .i64 0, .int .i64 0, .slice none 0 0, .int .i64 0, .int .i64 0, .int .i64 0, .int .i64 0, .int .i64 0, .int .i64 0, .int .i64 0, .slice none 0 0, .int .i64 0, .int .i64 0] 42)).setCells w11.heap.size 0 [.int .i64 o.id, .int .i64 o.pc, .int .i64 o.c.tag, .int .i64 o.c.n, .int .i64 o.ch.kind, .slice C1 o.ch.args.length cc1, .int .i64 o.ch.env, .int .i64 o.ch.id, .int .i64 o.ch.pc, .int .i64 o.ch.cut, .int .i64 o.ch.mark, .int .i64 o.ch.top, .int .i64 o.ch.envs, .slice C2 o.ch.alts.length cc2, .int .i64 o.ch.data, .int .i64 o.e]) := ⟨_, rfl⟩
        obtain ⟨q9, hq9⟩ : ∃ q, Hid (q = w11.heap.size) := ⟨_, rfl⟩
        have hone : (#[.int .i64 o.id, .int .i64 o.pc, .int .i64 o.c.tag, .int .i64 o.c.n, .int .i64 o.ch.kind, .slice C1 o.ch.args.length cc1, .int .i64 o.ch.env, .int .i64 o.ch.id, .int .i64 o.ch.pc, .int .i64 o.ch.cut, .int .i64 o.ch.mark, .int .i64 o.ch.top, .int .i64 o.ch.envs, .slice C2 o.ch.alts.length cc2, .int .i64 o.ch.data, .int .i64 o.e] : Array Value).all (·.oneCell') = true := by simp [Value.oneCell']
        have HT9 := Lib.hid ht9
        have HR9x := Lib.hid hr9
        clear ht9 hr9
        go_upto_region 11 with (refine wpList_store_mid rfl 42 (.tmp 9) (.tmp 45) rfl w11.heap.size 0 #[.int .i64 o.id, .int .i64 o.pc, .int .i64 o.c.tag, .int .i64 o.c.n, .int .i64 o.ch.kind, .slice C1 o.ch.args.length cc1, .int .i64 o.ch.env, .int .i64 o.ch.id, .int .i64 o.ch.pc, .int .i64 o.ch.cut, .int .i64 o.ch.mark, .int .i64 o.ch.top, .int .i64 o.ch.envs, .slice C2 o.ch.alts.length cc2, .int .i64 o.ch.data, .int .i64 o.e] rfl rfl HT9.out (by kernel_rfl) hone ?_)
        rw [← HW12.out, ← hq9.out]
        have hb12 : Below w11.heap.size w11 W12 := by rw [HW12.out]; exact hb9
        have hq9W : q9 < W12.heap.size := by rw [HW12.out, hz9', hq9.out]; exact Nat.lt_succ_self _
        have HQF6' : Hid (q9 ∉ F6) := Lib.hid fun h => by have := HLT.out.2 q9 h; have := hq9.out; omega
        have HB12 := Lib.hid hb12
        have HRO := Lib.hid (show W12.rangeAt q9 0 [.int .i64 o.id, .int .i64 o.pc, .int .i64 o.c.tag, .int .i64 o.c.n, .int .i64 o.ch.kind, .slice C1 o.ch.args.length cc1, .int .i64 o.ch.env, .int .i64 o.ch.id, .int .i64 o.ch.pc, .int .i64 o.ch.cut, .int .i64 o.ch.mark, .int .i64 o.ch.top, .int .i64 o.ch.envs, .slice C2 o.ch.alts.length cc2, .int .i64 o.ch.data, .int .i64 o.e] by rw [HW12.out, hq9.out]; exact HR9x.out)
        have HI12 := Lib.hid (bNext HI11.out hb12)
        have HZ12 := Lib.hid (range_below HZb.out hb12 (by omega))
        have HCR12 := Lib.hid (HCRb.out.next hb12)
        have H612 := Lib.hid (H6b.out.next hb12)
        have HV112 := Lib.hid (own_stay HV1b.out fun g hg => hb12.block g (HV1b.out.lt g hg).2)
        have HV212 := Lib.hid (own_stay HV2b.out fun g hg => hb12.block g (HV2b.out.lt g hg).2)
        have HRG12 := Lib.hid (range_below HRGb.out hb12 (by omega))
        have hz12 := hb12.size
        clear hone HR9x HT9 hb9 hz9' hb12 HW12 HI11 HZb HCRb H6b HV1b HV2b HRGb
        try simp only [Act.put]
        go_cut [64] from 46 to 75 (fun s64 wx => s64 = .bool false ∧ Hid (PostR B q5 q6 p' o (.slice C1 o.ch.args.length cc1) (.slice C2 o.ch.alts.length cc2) (.slice G1 ych.args.length g1) (.slice G2 ych.alts.length g2) F6 W12 wx))
        case first =>
          obtain ⟨D0, hD0⟩ : ∃ X, Hid (X = W12.drew) := ⟨_, rfl⟩
          have hd0 : Below W12.heap.size W12 D0 := by rw [hD0.out]; exact bDrew _
          refine wp_region_N (fun w' => w'.rangeAt q9 0 [.int .i64 o.id, .int .i64 o.pc, .int .i64 o.c.tag, .int .i64 o.c.n, .int .i64 o.ch.kind, .slice C1 o.ch.args.length cc1, .int .i64 o.ch.env, .int .i64 o.ch.id, .int .i64 o.ch.pc, .int .i64 o.ch.cut, .int .i64 o.ch.mark, .int .i64 o.ch.top, .int .i64 o.ch.envs, .slice C2 o.ch.alts.length cc2, .int .i64 o.ch.data, .int .i64 o.e] ∧ w'.rangeAt b (off + k * 17) [.int .i64 what, .int .i64 yn, .int .i64 yid, .int .i64 ypc, .int .i64 yc.tag, .int .i64 yc.n, .int .i64 ych.kind, .slice Ac ych.args.length ac, .int .i64 ych.env, .int .i64 ych.id, .int .i64 ych.pc, .int .i64 ych.cut, .int .i64 ych.mark, .int .i64 ych.top, .int .i64 ych.envs, .slice Bc ych.alts.length bc, .int .i64 ych.data]) (fun _ => true) (by kernel_rfl) ?_
          rw [← hD0.out]
          have hS0 : (fun w' => w'.rangeAt q9 0 [.int .i64 o.id, .int .i64 o.pc, .int .i64 o.c.tag, .int .i64 o.c.n, .int .i64 o.ch.kind, .slice C1 o.ch.args.length cc1, .int .i64 o.ch.env, .int .i64 o.ch.id, .int .i64 o.ch.pc, .int .i64 o.ch.cut, .int .i64 o.ch.mark, .int .i64 o.ch.top, .int .i64 o.ch.envs, .slice C2 o.ch.alts.length cc2, .int .i64 o.ch.data, .int .i64 o.e] ∧ w'.rangeAt b (off + k * 17) [.int .i64 what, .int .i64 yn, .int .i64 yid, .int .i64 ypc, .int .i64 yc.tag, .int .i64 yc.n, .int .i64 ych.kind, .slice Ac ych.args.length ac, .int .i64 ych.env, .int .i64 ych.id, .int .i64 ych.pc, .int .i64 ych.cut, .int .i64 ych.mark, .int .i64 ych.top, .int .i64 ych.envs, .slice Bc ych.alts.length bc, .int .i64 ych.data]) D0 := ⟨range_below HRO.out hd0 hq9W, range_below HZ12.out hd0 (by omega)⟩
          have HD0 := Lib.hid hd0
          have hzd := hd0.size
          clear hd0 hD0
          refine wpAnyN_take (i := 0) (v := .agg #[.int .i64 o.id, .int .i64 o.pc, .int .i64 o.c.tag, .int .i64 o.c.n, .int .i64 o.ch.kind, .slice C1 o.ch.args.length cc1, .int .i64 o.ch.env, .int .i64 o.ch.id, .int .i64 o.ch.pc, .int .i64 o.ch.cut, .int .i64 o.ch.mark, .int .i64 o.ch.top, .int .i64 o.ch.envs, .slice C2 o.ch.alts.length cc2, .int .i64 o.ch.data, .int .i64 o.e]) rfl (by kernel_rfl) (by kernel_rfl) (by kernel_rfl) (by kernel_rfl) (fun _ _ _ h => h) (yieldsIf_load_mid (by rfl) 42 (.tmp 9) rfl q9 0 rfl [.int .i64 o.id, .int .i64 o.pc, .int .i64 o.c.tag, .int .i64 o.c.n, .int .i64 o.ch.kind, .slice C1 o.ch.args.length cc1, .int .i64 o.ch.env, .int .i64 o.ch.id, .int .i64 o.ch.pc, .int .i64 o.ch.cut, .int .i64 o.ch.mark, .int .i64 o.ch.top, .int .i64 o.ch.envs, .slice C2 o.ch.alts.length cc2, .int .i64 o.ch.data, .int .i64 o.e] _ (fun w h => h.1) Try.underlying42 rfl (by kernel_rfl)) (by assumption) ?_
          simp only [Act.put, List.getElem_toArray, List.getElem_cons_zero, List.setIfInBounds_toArray, List.set_cons_zero, List.set_cons_succ]
          refine wpAnyN_take (i := 1) (v := ?v2) rfl (by kernel_rfl) (by kernel_rfl) (by kernel_rfl) (by kernel_rfl) (fun _ _ _ h => h) (Or.inl ⟨by rfl, ?hy2⟩) (by assumption) ?_
          case hy2 => intro w hSw; (try dsimp only at hSw); go_simp; try with_reducible rfl
          simp only [Act.put, List.getElem_toArray, List.getElem_cons_zero, List.getElem_cons_succ, List.setIfInBounds_toArray, List.set_cons_zero, List.set_cons_succ]
          refine wpAnyN_take (i := 2) (v := ?v3) rfl (by kernel_rfl) (by kernel_rfl) (by kernel_rfl) (by kernel_rfl) (fun _ _ _ h => h) (Or.inl ⟨by rfl, ?hy3⟩) (by assumption) ?_
          case hy3 => intro w hSw; (try dsimp only at hSw); go_simp; try with_reducible rfl
          simp only [Act.put, List.getElem_toArray, List.getElem_cons_zero, List.getElem_cons_succ, List.setIfInBounds_toArray, List.set_cons_zero, List.set_cons_succ]
          refine wpAnyN_take (i := 3) (v := .pointer (some ⟨b, off + k * 17, none⟩)) rfl (by kernel_rfl) (by kernel_rfl) (by kernel_rfl) (by kernel_rfl) (fun _ _ _ h => h) (Or.inl ⟨by rfl, ?hy4⟩) (by assumption) ?_
          case hy4 => intro w hSw; (try dsimp only at hSw); go_simp; try with_reducible rfl
          simp only [Act.put, List.getElem_toArray, List.getElem_cons_zero, List.getElem_cons_succ, List.setIfInBounds_toArray, List.set_cons_zero, List.set_cons_succ]
          refine wpAnyN_take (i := 4) (v := .agg #[.int .i64 what, .int .i64 yn, .int .i64 yid, .int .i64 ypc, .int .i64 yc.tag, .int .i64 yc.n, .int .i64 ych.kind, .slice Ac ych.args.length ac, .int .i64 ych.env, .int .i64 ych.id, .int .i64 ych.pc, .int .i64 ych.cut, .int .i64 ych.mark, .int .i64 ych.top, .int .i64 ych.envs, .slice Bc ych.alts.length bc, .int .i64 ych.data]) rfl (by kernel_rfl) (by kernel_rfl) (by kernel_rfl) (by kernel_rfl) (fun _ _ _ h => h) (yieldsIf_load_mid (by rfl) 40 (.tmp 49) rfl b (off + k * 17) rfl [.int .i64 what, .int .i64 yn, .int .i64 yid, .int .i64 ypc, .int .i64 yc.tag, .int .i64 yc.n, .int .i64 ych.kind, .slice Ac ych.args.length ac, .int .i64 ych.env, .int .i64 ych.id, .int .i64 ych.pc, .int .i64 ych.cut, .int .i64 ych.mark, .int .i64 ych.top, .int .i64 ych.envs, .slice Bc ych.alts.length bc, .int .i64 ych.data] _ (fun w h => h.2) Try.underlying40 rfl (by kernel_rfl)) (by assumption) ?_
          simp only [Act.put, List.getElem_toArray, List.getElem_cons_zero, List.getElem_cons_succ, List.setIfInBounds_toArray, List.set_cons_zero, List.set_cons_succ]
          refine wpAnyN_one (i := 5) (by kernel_rfl) rfl (fun K hK => ?_)
          simp only [List.getElem_toArray, List.getElem_cons_zero, List.getElem_cons_succ]
          go_simp
          refine (want_anyO (x := ych) (cl := yc) (Aa := Ac) (Ab := Bc) (ca := ac) (cb := bc) what yn yid ypc D0 (H612.out.next HD0.out) HG.out HBP.out HCR12.out.1 (HCR12.out.2.2.2.2.1.next HD0.out) hla HCR12.out.2.1 (HCR12.out.2.2.2.2.2.next HD0.out) hlb).mono ?_
          rintro e w13 ⟨⟨oc3, oc4⟩, rfl, hst3, hkp3⟩
          rw [← hp'.out, ← ho.out, ← hF6.out] at hst3
          rw [← hF6.out] at hkp3
          rw [← ho.out]
          obtain ⟨hpr, hr1, hr2, hr3, hr4⟩ := pair_do (z := wc.heap.size) (vs := [.slice G1 ych.args.length g1, .slice G2 ych.alts.length g2]) HST.out hst3 (bNext HB12.out (HD0.out)) hkp3 hz11 HLT.out.1 HLT.out.2 hz10' HDIS.out (fun v hv g hg => by
            simp only [List.mem_cons, List.not_mem_nil, or_false] at hv
            rcases hv with rfl | rfl
            · exact HVB.out.1 g hg
            · exact HVB.out.2 g hg)
          obtain ⟨C3, cc3, rfl, -⟩ := own_form hr3
          obtain ⟨C4, cc4, rfl, -⟩ := own_form hr4
          have hS1 : (fun w' => w'.rangeAt q9 0 [.int .i64 o.id, .int .i64 o.pc, .int .i64 o.c.tag, .int .i64 o.c.n, .int .i64 o.ch.kind, .slice C1 o.ch.args.length cc1, .int .i64 o.ch.env, .int .i64 o.ch.id, .int .i64 o.ch.pc, .int .i64 o.ch.cut, .int .i64 o.ch.mark, .int .i64 o.ch.top, .int .i64 o.ch.envs, .slice C2 o.ch.alts.length cc2, .int .i64 o.ch.data, .int .i64 o.e] ∧ w'.rangeAt b (off + k * 17) [.int .i64 what, .int .i64 yn, .int .i64 yid, .int .i64 ypc, .int .i64 yc.tag, .int .i64 yc.n, .int .i64 ych.kind, .slice Ac ych.args.length ac, .int .i64 ych.env, .int .i64 ych.id, .int .i64 ych.pc, .int .i64 ych.cut, .int .i64 ych.mark, .int .i64 ych.top, .int .i64 ych.envs, .slice Bc ych.alts.length bc, .int .i64 ych.data]) w13 := ⟨range_kept hS0.1 hkp3 (by omega) HQF6'.out, range_kept hS0.2 hkp3 (by omega) (fun h => by have := HGE.out.2 b h; omega)⟩
          have HP1 := Lib.hid hpr
          have HR1 := Lib.hid hr1
          have HR2 := Lib.hid hr2
          have HR3 := Lib.hid hr3
          have HR4 := Lib.hid hr4
          have HKW := Lib.hid ((Kept.below (F := F6) HD0.out).trans hkp3)
          have hz13 := hkp3.size
          clear hpr hr1 hr2 hr3 hr4 hst3 hkp3 hS0
          refine hK _ _ (fun _ => hS1) ?_
          (try simp only [Act.put, List.setIfInBounds_toArray, List.set_cons_zero, List.set_cons_succ])
          refine wpAnyN_one (i := 6) (by kernel_rfl) rfl (fun K hK => ?_)
          simp only [List.getElem_toArray, List.getElem_cons_zero, List.getElem_cons_succ]
          go_simp
          refine (outSame_any o w13 (own_cellsAt HR1.out) (own_cellsAt HR3.out) (own_intsAt HR2.out) (own_intsAt HR4.out) HBD'.out.2.1 HBD'.out.2.2).mono ?_
          rintro e w14 ⟨rfl, hbx⟩
          have hS2 : (fun w' => w'.rangeAt q9 0 [.int .i64 o.id, .int .i64 o.pc, .int .i64 o.c.tag, .int .i64 o.c.n, .int .i64 o.ch.kind, .slice C1 o.ch.args.length cc1, .int .i64 o.ch.env, .int .i64 o.ch.id, .int .i64 o.ch.pc, .int .i64 o.ch.cut, .int .i64 o.ch.mark, .int .i64 o.ch.top, .int .i64 o.ch.envs, .slice C2 o.ch.alts.length cc2, .int .i64 o.ch.data, .int .i64 o.e] ∧ w'.rangeAt b (off + k * 17) [.int .i64 what, .int .i64 yn, .int .i64 yid, .int .i64 ypc, .int .i64 yc.tag, .int .i64 yc.n, .int .i64 ych.kind, .slice Ac ych.args.length ac, .int .i64 ych.env, .int .i64 ych.id, .int .i64 ych.pc, .int .i64 ych.cut, .int .i64 ych.mark, .int .i64 ych.top, .int .i64 ych.envs, .slice Bc ych.alts.length bc, .int .i64 ych.data]) w14 := ⟨range_below hS1.1 hbx (by omega), range_below hS1.2 hbx (by omega)⟩
          have HP2 := Lib.hid (HP1.out.next hbx)
          have HR1_2 := Lib.hid (own_stay HR1.out fun g hg => hbx.block g (HR1.out.lt g hg).2)
          have HR2_2 := Lib.hid (own_stay HR2.out fun g hg => hbx.block g (HR2.out.lt g hg).2)
          have HKW2 := Lib.hid (HKW.out.trans (Kept.below (F := F6) hbx))
          have hzz2 := hbx.size
          clear hbx hS1
          obtain ⟨E5, e5, E5', e5', E6, e6, E6', e6', hkb5, hat5, hkb6, hat6⟩ := HP2.out.at
          have t0 := hkb5.cell 0
          have t1 := hkb5.cell 1
          have t2 := hkb5.cell 2
          have t3 := hkb6.cell 0
          have t4 := hkb6.cell 1
          have t5 := hkb6.cell 2
          have l5 := hkb5.lt
          have l6 := hkb6.lt
          simp at t0 t1 t2 t3 t4 t5
          have HA5 := Lib.hid hat5
          have HA6 := Lib.hid hat6
          have HB5 := Lib.hid hkb5
          clear hat5 hat6 hkb5 hkb6
          refine hK _ _ (fun _ => hS2) ?_
          (try simp only [Act.put, List.setIfInBounds_toArray, List.set_cons_zero, List.set_cons_succ])
          refine wpAnyN_take (i := 7) (v := ?v6) rfl (by kernel_rfl) (by kernel_rfl) (by kernel_rfl) (by kernel_rfl) (fun _ _ _ h => h) (Or.inl ⟨by rfl, ?hy6⟩) (by assumption) ?_
          case hy6 => intro w hSw; (try dsimp only at hSw); go_simp; try with_reducible rfl
          simp only [Act.put, List.getElem_toArray, List.getElem_cons_zero, List.getElem_cons_succ, List.setIfInBounds_toArray, List.set_cons_zero, List.set_cons_succ]
          refine wpAnyN_take (i := 8) (v := ?v7) rfl (by kernel_rfl) (by kernel_rfl) (by kernel_rfl) (by kernel_rfl) (fun _ _ _ h => h) (Or.inl ⟨by rfl, ?hy7⟩) (by assumption) ?_
          case hy7 => intro w hSw; (try dsimp only at hSw); go_simp; try with_reducible rfl
          simp only [Act.put, List.getElem_toArray, List.getElem_cons_zero, List.getElem_cons_succ, List.setIfInBounds_toArray, List.set_cons_zero, List.set_cons_succ]
          refine wpAnyN_two (i := 9) (j := 10) (by kernel_rfl) rfl rfl (fun K hK => ?_) (fun K hK => ?_)
          · simp only [List.getElem_toArray, List.getElem_cons_zero, List.getElem_cons_succ]
            go_simp
            refine hK _ _ (fun _ => hS2) ?_
            (try simp only [Act.put, List.setIfInBounds_toArray, List.set_cons_zero, List.set_cons_succ])
            refine wpAnyN_one (i := 10) (by kernel_rfl) rfl (fun K hK => ?_)
            simp only [List.getElem_toArray, List.getElem_cons_zero, List.getElem_cons_succ]
            go_simp
            refine hK _ _ (fun _ => hS2) ?_
            (try simp only [Act.put, List.setIfInBounds_toArray, List.set_cons_zero, List.set_cons_succ])
            refine wpAnyN_one (i := 11) (by kernel_rfl) rfl (fun K hK => ?_)
            simp only [List.getElem_toArray, List.getElem_cons_zero, List.getElem_cons_succ]
            go_simp
            refine (same_any p' w14 HA5.out HA6.out (by have := HG'.out.envs; omega) (by have := HG'.out.chs; omega) (fun x hx => Nat.le_trans (HG'.out.sized.y x hx) (by omega)) HBD'.out.1).mono ?_
            rintro e w15 ⟨rfl, hbx⟩
            have hS3 : (fun w' => w'.rangeAt q9 0 [.int .i64 o.id, .int .i64 o.pc, .int .i64 o.c.tag, .int .i64 o.c.n, .int .i64 o.ch.kind, .slice C1 o.ch.args.length cc1, .int .i64 o.ch.env, .int .i64 o.ch.id, .int .i64 o.ch.pc, .int .i64 o.ch.cut, .int .i64 o.ch.mark, .int .i64 o.ch.top, .int .i64 o.ch.envs, .slice C2 o.ch.alts.length cc2, .int .i64 o.ch.data, .int .i64 o.e] ∧ w'.rangeAt b (off + k * 17) [.int .i64 what, .int .i64 yn, .int .i64 yid, .int .i64 ypc, .int .i64 yc.tag, .int .i64 yc.n, .int .i64 ych.kind, .slice Ac ych.args.length ac, .int .i64 ych.env, .int .i64 ych.id, .int .i64 ych.pc, .int .i64 ych.cut, .int .i64 ych.mark, .int .i64 ych.top, .int .i64 ych.envs, .slice Bc ych.alts.length bc, .int .i64 ych.data]) w15 := ⟨range_below hS2.1 hbx (by omega), range_below hS2.2 hbx (by omega)⟩
            have HP3 := Lib.hid (HP2.out.next hbx)
            have HR1_3 := Lib.hid (own_stay HR1_2.out fun g hg => hbx.block g (HR1_2.out.lt g hg).2)
            have HR2_3 := Lib.hid (own_stay HR2_2.out fun g hg => hbx.block g (HR2_2.out.lt g hg).2)
            have HKW3 := Lib.hid (HKW2.out.trans (Kept.below (F := F6) hbx))
            have hzz3 := hbx.size
            have hA5' := HA5.out.next hbx
            have hB5' := HB5.out.next hbx
            have r0 := hB5'.cell 0
            have r1 := hB5'.cell 1
            have r2 := hB5'.cell 2
            have r3 := hB5'.lt
            simp at r0 r1 r2
            have HA5' := Lib.hid hA5'
            clear hbx hS2 hA5' hB5'
            refine hK _ _ (fun _ => hS3) ?_
            (try simp only [Act.put, List.setIfInBounds_toArray, List.set_cons_zero, List.set_cons_succ])
            refine wpAnyN_take (i := 12) (v := ?v8) rfl (by kernel_rfl) (by kernel_rfl) (by kernel_rfl) (by kernel_rfl) (fun _ _ _ h => h) (Or.inl ⟨by rfl, ?hy8⟩) (by assumption) ?_
            case hy8 => intro w hSw; (try dsimp only at hSw); go_simp; try with_reducible rfl
            simp only [Act.put, List.getElem_toArray, List.getElem_cons_zero, List.getElem_cons_succ, List.setIfInBounds_toArray, List.set_cons_zero, List.set_cons_succ]
            refine wpAnyN_take (i := 13) (v := ?v9) rfl (by kernel_rfl) (by kernel_rfl) (by kernel_rfl) (by kernel_rfl) (fun _ _ _ h => h) (Or.inl ⟨by rfl, ?hy9⟩) (by assumption) ?_
            case hy9 => intro w hSw; (try dsimp only at hSw); go_simp; try with_reducible rfl
            simp only [Act.put, List.getElem_toArray, List.getElem_cons_zero, List.getElem_cons_succ, List.setIfInBounds_toArray, List.set_cons_zero, List.set_cons_succ]
            refine wpAnyN_take (i := 14) (v := ?v10) rfl (by kernel_rfl) (by kernel_rfl) (by kernel_rfl) (by kernel_rfl) (fun _ _ _ h => h) (Or.inl ⟨by rfl, ?hy10⟩) (by assumption) ?_
            case hy10 => intro w hSw; (try dsimp only at hSw); go_simp; try with_reducible rfl
            simp only [Act.put, List.getElem_toArray, List.getElem_cons_zero, List.getElem_cons_succ, List.setIfInBounds_toArray, List.set_cons_zero, List.set_cons_succ]
            refine wpAnyN_one (i := 15) (by kernel_rfl) rfl (fun K hK => ?_)
            simp only [List.getElem_toArray, List.getElem_cons_zero, List.getElem_cons_succ]
            go_simp
            refine hK _ _ (fun _ => hS3) ?_
            (try simp only [Act.put, List.setIfInBounds_toArray, List.set_cons_zero, List.set_cons_succ])
            refine wpAnyN_one (i := 16) (by kernel_rfl) rfl (fun K hK => ?_)
            simp only [List.getElem_toArray, List.getElem_cons_zero, List.getElem_cons_succ]
            go_simp
            refine (validP_yes w15 HA5'.out HG'.out).mono ?_
            rintro e w16 ⟨rfl, hbx⟩
            have hS4 : (fun w' => w'.rangeAt q9 0 [.int .i64 o.id, .int .i64 o.pc, .int .i64 o.c.tag, .int .i64 o.c.n, .int .i64 o.ch.kind, .slice C1 o.ch.args.length cc1, .int .i64 o.ch.env, .int .i64 o.ch.id, .int .i64 o.ch.pc, .int .i64 o.ch.cut, .int .i64 o.ch.mark, .int .i64 o.ch.top, .int .i64 o.ch.envs, .slice C2 o.ch.alts.length cc2, .int .i64 o.ch.data, .int .i64 o.e] ∧ w'.rangeAt b (off + k * 17) [.int .i64 what, .int .i64 yn, .int .i64 yid, .int .i64 ypc, .int .i64 yc.tag, .int .i64 yc.n, .int .i64 ych.kind, .slice Ac ych.args.length ac, .int .i64 ych.env, .int .i64 ych.id, .int .i64 ych.pc, .int .i64 ych.cut, .int .i64 ych.mark, .int .i64 ych.top, .int .i64 ych.envs, .slice Bc ych.alts.length bc, .int .i64 ych.data]) w16 := ⟨range_below hS3.1 hbx (by omega), range_below hS3.2 hbx (by omega)⟩
            have HP4 := Lib.hid (HP3.out.next hbx)
            have HR1_4 := Lib.hid (own_stay HR1_3.out fun g hg => hbx.block g (HR1_3.out.lt g hg).2)
            have HR2_4 := Lib.hid (own_stay HR2_3.out fun g hg => hbx.block g (HR2_3.out.lt g hg).2)
            have HKW4 := Lib.hid (HKW3.out.trans (Kept.below (F := F6) hbx))
            have hzz4 := hbx.size
            clear hbx hS3
            refine hK _ _ (fun _ => hS4) ?_
            (try simp only [Act.put, List.setIfInBounds_toArray, List.set_cons_zero, List.set_cons_succ])
            refine wpAnyN_take (i := 17) (v := ?v11) rfl (by kernel_rfl) (by kernel_rfl) (by kernel_rfl) (by kernel_rfl) (fun _ _ _ h => h) (Or.inl ⟨by rfl, ?hy11⟩) (by assumption) ?_
            case hy11 => intro w hSw; (try dsimp only at hSw); go_simp; try with_reducible rfl
            simp only [Act.put, List.getElem_toArray, List.getElem_cons_zero, List.getElem_cons_succ, List.setIfInBounds_toArray, List.set_cons_zero, List.set_cons_succ]
            refine wpAnyN_take (i := 18) (v := ?v12) rfl (by kernel_rfl) (by kernel_rfl) (by kernel_rfl) (by kernel_rfl) (fun _ _ _ h => h) (Or.inl ⟨by rfl, ?hy12⟩) (by assumption) ?_
            case hy12 => intro w hSw; (try dsimp only at hSw); go_simp; try with_reducible rfl
            simp only [Act.put, List.getElem_toArray, List.getElem_cons_zero, List.getElem_cons_succ, List.setIfInBounds_toArray, List.set_cons_zero, List.set_cons_succ]
            refine wpAnyN_done (by kernel_rfl) ?_ _
            have HPR : Hid (PostR B q5 q6 p' o (.slice C1 o.ch.args.length cc1) (.slice C2 o.ch.alts.length cc2) (.slice G1 ych.args.length g1) (.slice G2 ych.alts.length g2) F6 W12 w16) := Lib.hid ⟨HP4.out, HR1_4.out, HR2_4.out, HKW4.out⟩
            go_wp2_with fail
            go_meet
            exact ⟨rfl, HPR⟩
          · simp only [List.getElem_toArray, List.getElem_cons_zero, List.getElem_cons_succ]
            go_simp
            refine hK _ _ (fun _ => hS2) ?_
            (try simp only [Act.put, List.setIfInBounds_toArray, List.set_cons_zero, List.set_cons_succ])
            refine wpAnyN_one (i := 9) (by kernel_rfl) rfl (fun K hK => ?_)
            simp only [List.getElem_toArray, List.getElem_cons_zero, List.getElem_cons_succ]
            go_simp
            refine hK _ _ (fun _ => hS2) ?_
            (try simp only [Act.put, List.setIfInBounds_toArray, List.set_cons_zero, List.set_cons_succ])
            refine wpAnyN_one (i := 11) (by kernel_rfl) rfl (fun K hK => ?_)
            simp only [List.getElem_toArray, List.getElem_cons_zero, List.getElem_cons_succ]
            go_simp
            refine (same_any p' w14 HA5.out HA6.out (by have := HG'.out.envs; omega) (by have := HG'.out.chs; omega) (fun x hx => Nat.le_trans (HG'.out.sized.y x hx) (by omega)) HBD'.out.1).mono ?_
            rintro e w15 ⟨rfl, hbx⟩
            have hS3 : (fun w' => w'.rangeAt q9 0 [.int .i64 o.id, .int .i64 o.pc, .int .i64 o.c.tag, .int .i64 o.c.n, .int .i64 o.ch.kind, .slice C1 o.ch.args.length cc1, .int .i64 o.ch.env, .int .i64 o.ch.id, .int .i64 o.ch.pc, .int .i64 o.ch.cut, .int .i64 o.ch.mark, .int .i64 o.ch.top, .int .i64 o.ch.envs, .slice C2 o.ch.alts.length cc2, .int .i64 o.ch.data, .int .i64 o.e] ∧ w'.rangeAt b (off + k * 17) [.int .i64 what, .int .i64 yn, .int .i64 yid, .int .i64 ypc, .int .i64 yc.tag, .int .i64 yc.n, .int .i64 ych.kind, .slice Ac ych.args.length ac, .int .i64 ych.env, .int .i64 ych.id, .int .i64 ych.pc, .int .i64 ych.cut, .int .i64 ych.mark, .int .i64 ych.top, .int .i64 ych.envs, .slice Bc ych.alts.length bc, .int .i64 ych.data]) w15 := ⟨range_below hS2.1 hbx (by omega), range_below hS2.2 hbx (by omega)⟩
            have HP3 := Lib.hid (HP2.out.next hbx)
            have HR1_3 := Lib.hid (own_stay HR1_2.out fun g hg => hbx.block g (HR1_2.out.lt g hg).2)
            have HR2_3 := Lib.hid (own_stay HR2_2.out fun g hg => hbx.block g (HR2_2.out.lt g hg).2)
            have HKW3 := Lib.hid (HKW2.out.trans (Kept.below (F := F6) hbx))
            have hzz3 := hbx.size
            have hA5' := HA5.out.next hbx
            have hB5' := HB5.out.next hbx
            have r0 := hB5'.cell 0
            have r1 := hB5'.cell 1
            have r2 := hB5'.cell 2
            have r3 := hB5'.lt
            simp at r0 r1 r2
            have HA5' := Lib.hid hA5'
            clear hbx hS2 hA5' hB5'
            refine hK _ _ (fun _ => hS3) ?_
            (try simp only [Act.put, List.setIfInBounds_toArray, List.set_cons_zero, List.set_cons_succ])
            refine wpAnyN_take (i := 12) (v := ?v8) rfl (by kernel_rfl) (by kernel_rfl) (by kernel_rfl) (by kernel_rfl) (fun _ _ _ h => h) (Or.inl ⟨by rfl, ?hy8⟩) (by assumption) ?_
            case hy8 => intro w hSw; (try dsimp only at hSw); go_simp; try with_reducible rfl
            simp only [Act.put, List.getElem_toArray, List.getElem_cons_zero, List.getElem_cons_succ, List.setIfInBounds_toArray, List.set_cons_zero, List.set_cons_succ]
            refine wpAnyN_take (i := 13) (v := ?v9) rfl (by kernel_rfl) (by kernel_rfl) (by kernel_rfl) (by kernel_rfl) (fun _ _ _ h => h) (Or.inl ⟨by rfl, ?hy9⟩) (by assumption) ?_
            case hy9 => intro w hSw; (try dsimp only at hSw); go_simp; try with_reducible rfl
            simp only [Act.put, List.getElem_toArray, List.getElem_cons_zero, List.getElem_cons_succ, List.setIfInBounds_toArray, List.set_cons_zero, List.set_cons_succ]
            refine wpAnyN_take (i := 14) (v := ?v10) rfl (by kernel_rfl) (by kernel_rfl) (by kernel_rfl) (by kernel_rfl) (fun _ _ _ h => h) (Or.inl ⟨by rfl, ?hy10⟩) (by assumption) ?_
            case hy10 => intro w hSw; (try dsimp only at hSw); go_simp; try with_reducible rfl
            simp only [Act.put, List.getElem_toArray, List.getElem_cons_zero, List.getElem_cons_succ, List.setIfInBounds_toArray, List.set_cons_zero, List.set_cons_succ]
            refine wpAnyN_one (i := 15) (by kernel_rfl) rfl (fun K hK => ?_)
            simp only [List.getElem_toArray, List.getElem_cons_zero, List.getElem_cons_succ]
            go_simp
            refine hK _ _ (fun _ => hS3) ?_
            (try simp only [Act.put, List.setIfInBounds_toArray, List.set_cons_zero, List.set_cons_succ])
            refine wpAnyN_one (i := 16) (by kernel_rfl) rfl (fun K hK => ?_)
            simp only [List.getElem_toArray, List.getElem_cons_zero, List.getElem_cons_succ]
            go_simp
            refine (validP_yes w15 HA5'.out HG'.out).mono ?_
            rintro e w16 ⟨rfl, hbx⟩
            have hS4 : (fun w' => w'.rangeAt q9 0 [.int .i64 o.id, .int .i64 o.pc, .int .i64 o.c.tag, .int .i64 o.c.n, .int .i64 o.ch.kind, .slice C1 o.ch.args.length cc1, .int .i64 o.ch.env, .int .i64 o.ch.id, .int .i64 o.ch.pc, .int .i64 o.ch.cut, .int .i64 o.ch.mark, .int .i64 o.ch.top, .int .i64 o.ch.envs, .slice C2 o.ch.alts.length cc2, .int .i64 o.ch.data, .int .i64 o.e] ∧ w'.rangeAt b (off + k * 17) [.int .i64 what, .int .i64 yn, .int .i64 yid, .int .i64 ypc, .int .i64 yc.tag, .int .i64 yc.n, .int .i64 ych.kind, .slice Ac ych.args.length ac, .int .i64 ych.env, .int .i64 ych.id, .int .i64 ych.pc, .int .i64 ych.cut, .int .i64 ych.mark, .int .i64 ych.top, .int .i64 ych.envs, .slice Bc ych.alts.length bc, .int .i64 ych.data]) w16 := ⟨range_below hS3.1 hbx (by omega), range_below hS3.2 hbx (by omega)⟩
            have HP4 := Lib.hid (HP3.out.next hbx)
            have HR1_4 := Lib.hid (own_stay HR1_3.out fun g hg => hbx.block g (HR1_3.out.lt g hg).2)
            have HR2_4 := Lib.hid (own_stay HR2_3.out fun g hg => hbx.block g (HR2_3.out.lt g hg).2)
            have HKW4 := Lib.hid (HKW3.out.trans (Kept.below (F := F6) hbx))
            have hzz4 := hbx.size
            clear hbx hS3
            refine hK _ _ (fun _ => hS4) ?_
            (try simp only [Act.put, List.setIfInBounds_toArray, List.set_cons_zero, List.set_cons_succ])
            refine wpAnyN_take (i := 17) (v := ?v11) rfl (by kernel_rfl) (by kernel_rfl) (by kernel_rfl) (by kernel_rfl) (fun _ _ _ h => h) (Or.inl ⟨by rfl, ?hy11⟩) (by assumption) ?_
            case hy11 => intro w hSw; (try dsimp only at hSw); go_simp; try with_reducible rfl
            simp only [Act.put, List.getElem_toArray, List.getElem_cons_zero, List.getElem_cons_succ, List.setIfInBounds_toArray, List.set_cons_zero, List.set_cons_succ]
            refine wpAnyN_take (i := 18) (v := ?v12) rfl (by kernel_rfl) (by kernel_rfl) (by kernel_rfl) (by kernel_rfl) (fun _ _ _ h => h) (Or.inl ⟨by rfl, ?hy12⟩) (by assumption) ?_
            case hy12 => intro w hSw; (try dsimp only at hSw); go_simp; try with_reducible rfl
            simp only [Act.put, List.getElem_toArray, List.getElem_cons_zero, List.getElem_cons_succ, List.setIfInBounds_toArray, List.set_cons_zero, List.set_cons_succ]
            refine wpAnyN_done (by kernel_rfl) ?_ _
            have HPR : Hid (PostR B q5 q6 p' o (.slice C1 o.ch.args.length cc1) (.slice C2 o.ch.alts.length cc2) (.slice G1 ych.args.length g1) (.slice G2 ych.alts.length g2) F6 W12 w16) := Lib.hid ⟨HP4.out, HR1_4.out, HR2_4.out, HKW4.out⟩
            go_wp2_with fail
            go_meet
            exact ⟨rfl, HPR⟩
        case rest =>
          obtain ⟨rfl, HPR⟩ := hcut
          have HQ8 := Lib.hid (range_kept HRG12.out HPR.out.kept (by omega) HQF6.out)
          have HQ9 := Lib.hid (range_kept HRO.out HPR.out.kept hq9W HQF6'.out)
          have HCH8 := Lib.hid (show wc.rangeAt q8 6 [.int .i64 ych.kind, .slice G1 ych.args.length g1, .int .i64 ych.env, .int .i64 ych.id, .int .i64 ych.pc, .int .i64 ych.cut, .int .i64 ych.mark, .int .i64 ych.top, .int .i64 ych.envs, .slice G2 ych.alts.length g2, .int .i64 ych.data] from fun j v hv => by
            have hj : j < 11 := (List.getElem?_eq_some_iff.1 hv).1
            have h := HQ8.out (6 + j) v (by
              match j, hj with
              | 0, _ | 1, _ | 2, _ | 3, _ | 4, _ | 5, _ | 6, _ | 7, _ | 8, _ | 9, _ | 10, _ => exact hv)
            rwa [Nat.zero_add] at h)
          have HCH9 := Lib.hid (show wc.rangeAt q9 4 [.int .i64 o.ch.kind, .slice C1 o.ch.args.length cc1, .int .i64 o.ch.env, .int .i64 o.ch.id, .int .i64 o.ch.pc, .int .i64 o.ch.cut, .int .i64 o.ch.mark, .int .i64 o.ch.top, .int .i64 o.ch.envs, .slice C2 o.ch.alts.length cc2, .int .i64 o.ch.data] from fun j v hv => by
            have hj : j < 11 := (List.getElem?_eq_some_iff.1 hv).1
            have h := HQ9.out (4 + j) v (by
              match j, hj with
              | 0, _ | 1, _ | 2, _ | 3, _ | 4, _ | 5, _ | 6, _ | 7, _ | 8, _ | 9, _ | 10, _ => exact hv)
            rwa [Nat.zero_add] at h)
          have HV1c := Lib.hid (own_stay HV112.out fun g hg => HPR.out.kept.block g (HV112.out.lt g hg).2 fun h => by have := HLT.out.2 g h; have := (HVB.out.1 g hg).1; omega)
          have HV2c := Lib.hid (own_stay HV212.out fun g hg => HPR.out.kept.block g (HV212.out.lt g hg).2 fun h => by have := HLT.out.2 g h; have := (HVB.out.2 g hg).1; omega)
          have HIc := Lib.hid (HI12.out.trans ((HPR.out.kept.low HGE.out.2 (by omega)).mono hwB))
          have hzc := HPR.out.kept.size
          obtain ⟨WG, HWG⟩ : ∃ X, Hid (X = wc.alloc (.cells #[.int .i64 ych.kind, .slice G1 ych.args.length g1, .int .i64 ych.env, .int .i64 ych.id, .int .i64 ych.pc, .int .i64 ych.cut, .int .i64 ych.mark, .int .i64 ych.top, .int .i64 ych.envs, .slice G2 ych.alts.length g2, .int .i64 ych.data, .int .i64 o.ch.kind, .slice C1 o.ch.args.length cc1, .int .i64 o.ch.env, .int .i64 o.ch.id, .int .i64 o.ch.pc, .int .i64 o.ch.cut, .int .i64 o.ch.mark, .int .i64 o.ch.top, .int .i64 o.ch.envs, .slice C2 o.ch.alts.length cc2, .int .i64 o.ch.data] 29)) := ⟨_, rfl⟩
          obtain ⟨gc, hgc⟩ : ∃ q, Hid (q = wc.heap.size) := ⟨_, rfl⟩
          have hbG : Below wc.heap.size wc WG := by rw [HWG.out]; exact bAlloc _ _
          have hkG : Blk WG gc 29 #[.int .i64 ych.kind, .slice G1 ych.args.length g1, .int .i64 ych.env, .int .i64 ych.id, .int .i64 ych.pc, .int .i64 ych.cut, .int .i64 ych.mark, .int .i64 ych.top, .int .i64 ych.envs, .slice G2 ych.alts.length g2, .int .i64 ych.data, .int .i64 o.ch.kind, .slice C1 o.ch.args.length cc1, .int .i64 o.ch.env, .int .i64 o.ch.id, .int .i64 o.ch.pc, .int .i64 o.ch.cut, .int .i64 o.ch.mark, .int .i64 o.ch.top, .int .i64 o.ch.envs, .slice C2 o.ch.alts.length cc2, .int .i64 o.ch.data] := by rw [HWG.out, hgc.out]; exact Blk.new _ _ _
          have HIG := Lib.hid (bNext HIc.out hbG)
          have HSM : Hid (SpM WG gc 0 (fun j => if j = 0 then (.slice G1 ych.args.length g1, .slice G2 ych.alts.length g2) else (.slice C1 o.ch.args.length cc1, .slice C2 o.ch.alts.length cc2)) (fun j => if j = 0 then ych.args.length else o.ch.args.length) (fun j => if j = 0 then ych.alts.length else o.ch.alts.length)) := Lib.hid (by
            refine ⟨⟨_, hkG, rfl, fun j _ hj => ?_⟩, fun j hj => ?_⟩
            · rcases (by omega : j = 0 ∨ j = 1) with rfl | rfl <;> exact ⟨rfl, rfl⟩
            · rcases (by omega : j = 0 ∨ j = 1) with rfl | rfl
              · exact ⟨⟨_, own_base (own_stay HV1c.out fun g hg => hbG.block g (HV1c.out.lt g hg).2) (Nat.zero_le _)⟩, _, own_base (own_stay HV2c.out fun g hg => hbG.block g (HV2c.out.lt g hg).2) (Nat.zero_le _)⟩
              · exact ⟨⟨_, own_stay HPR.out.r1 fun g hg => hbG.block g (HPR.out.r1.lt g hg).2⟩, _, own_stay HPR.out.r2 fun g hg => hbG.block g (HPR.out.r2.lt g hg).2⟩)
          have HPG := Lib.hid (HPR.out.pair.new hbG (.slice (some ⟨gc, 0, none⟩) 2 2) (fun g hg => by simp [Value.ownBlock] at hg; rw [← hg, hgc.out]; exact Nat.le_refl _))
          have hzG := hbG.size
          have hgcB : B ≤ gc := by rw [hgc.out]; omega
          clear hbG hkG
          go_wp2_with (first | (refine wpList_load_mid rfl 29 (.tmp 65) rfl q8 6 rfl _ _ HCH8.out Try.underlying29 rfl (by kernel_rfl) ?_) | (refine wpList_load_mid rfl 29 (.tmp 67) rfl q9 4 rfl _ _ HCH9.out Try.underlying29 rfl (by kernel_rfl) ?_))
          try rw [← HWG.out]
          try rw [← hgc.out]
          refine (spoil_any WG HSM.out (fun j => by have := HBD'.out.2.1; split <;> omega) (fun j => by have := HBD'.out.2.2; split <;> omega)).mono ?_
          rintro e w17 ⟨rfl, hkp⟩
          have HPF := Lib.hid (show PairA w17 B q5 q6 p' [] from by
            refine HPG.out.kept ⟨hkp.os, hkp.tape, hkp.output, hkp.size, fun g hg hn => hkp.block g hg fun hm => hn ?_⟩
            exact blks_perm4 hm)
          have HIF := Lib.hid (HIG.out.trans ((hkp.low (B := B) (fun g hg => by
            rcases List.mem_cons.1 (blks_perm4 (show g ∈ gc :: blks [_, _, _, _] from hg)) with rfl | h
            · exact hgcB
            · obtain ⟨v, hv, e⟩ := List.mem_filterMap.1 h
              exact HOC.out v hv g e) (by omega)).mono hwB))
          obtain ⟨E5, e5, E5', e5', E6, e6, E6', e6', hkb5, hat5, hkb6, hat6⟩ := HPF.out.at
          have t0 := hkb5.cell 0
          have t1 := hkb5.cell 1
          have t2 := hkb5.cell 2
          have t3 := hkb6.cell 0
          have t4 := hkb6.cell 1
          have t5 := hkb6.cell 2
          have l5 := hkb5.lt
          have l6 := hkb6.lt
          simp at t0 t1 t2 t3 t4 t5
          have HA5 := Lib.hid hat5
          have HA6 := Lib.hid hat6
          clear hat5 hat6 hkb5 hkb6 hkp HSM HPG HIG HIc HWG HPR HQ8 HQ9 HCH8 HCH9 HV1c HV2c
          go_wp2_with fail
          refine (same_any p' w17 HA5.out HA6.out (by have := HG'.out.envs; omega) (by have := HG'.out.chs; omega) (fun x hx => Nat.le_trans (HG'.out.sized.y x hx) (by omega)) HBD'.out.1).mono ?_
          rintro e w18 ⟨rfl, hbx⟩
          have HIE := Lib.hid (bNext HIF.out hbx)
          have HPE := Lib.hid (HPF.out.next hbx)
          clear hbx t0 t1 t2 t3 t4 t5 HA5 HA6 HIF HPF
          go_wp2_with fail
          exact Handed.intro (60 - (k + 1)) (by omega) (HJ.out _ _ _ ⟨k + 1, p', _, _, by rw [show ((k + 1 : Nat) : Int) = (k : Int) + 1 by omega], rfl, rfl, by omega, HIE, HG', Lib.hid HBD'.out.1, HPE⟩)
      · rw [decide_eq_false hc]
        clear hc
        go_wp2_with fail
        refine (awake_any wc).mono ?_
        rintro e w4 ⟨rfl, hb4⟩
        have HB4 := Lib.hid (bNext HI.out hb4)
        clear hb4
        go_wp2_with fail
        go_ret
        exact ⟨rfl, HB4.out⟩
end
end Go.Proofs.Ytpkpffnabcgcbaa
