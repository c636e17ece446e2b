/-
  Walks: regs.allocate.
-/
import Derived.Test.YteffpeokialeiaaBh
import Derived.Outline
namespace Go.Proofs.Yteffpeokialeiaa
open Go.RowKit

theorem Al.setMap {w w' : World} {q : Cfg} {v : Value} {s : St} (h : Al w q v s) {z n : Int} (hM : MapI w' q.g (numF ((z, n) :: s.num))) (hg : w.grownBy w' (some q.g)) (hz : w'.heap.size = w.heap.size) :
    Al w' q v { s with num := (z, n) :: s.num } ∧ Turn w w' q v v := by
  obtain ⟨⟨a1, a2, a3, a4⟩, ⟨b1, b2, b3⟩, ⟨c1, c2⟩, d1, e1, e2, e3, e4⟩ := h.apart
  obtain ⟨⟨h1, h2, h3⟩, h4, ⟨fl, ⟨h5, h6⟩, h7, h8⟩, h9, h10⟩ := h
  refine ⟨⟨⟨h1.grown hg (fun e => a4 (by injection e with e; exact e.symm)), h2.grown hg (fun e => b3 (by injection e with e; exact e.symm)), h3.grown hg (fun e => c2 (by injection e with e; exact e.symm))⟩, hM,
    ⟨fl, ⟨h5.grown hg (fun e => d1 (by injection e with e; exact e.symm)), own_stay h6 fun g hgg => hg.block g (own_lt h6 hgg).2 (fun e => e3 (by rw [hgg, e]))⟩, h7, h8⟩, h9, by omega⟩, ?_⟩
  exact ⟨hg.os, hg.tape, hg.output, hg.size, fun k hk _ hkg _ _ => hg.block k hk (fun e => hkg (by injection e)), .inl rfl⟩
theorem Ao.grown {w0 wr w' : World} {q : Cfg} {gl : Nat} {lf : Int → Option Value} {v vo : Value} {s : St} {out : List In} {row : Option Nat} (h : Ao w0 wr q gl lf v vo s out) (hg : wr.grownBy w' row)
    (hrow : ∀ g, row = some g → w0.heap.size ≤ g ∧ ∃ cs, Blk wr g 23 cs) : Al w' q v s ∧ (MapI w' gl lf ∧ gl ≠ q.g) ∧ Below w0.heap.size w0 w' := by
  obtain ⟨h1, ⟨h2, h2'⟩, h3, h4, h5⟩ := h
  obtain ⟨⟨k1, k2, k3⟩, k4, ⟨fl, ⟨k5, k6⟩, k7⟩, k8, k9⟩ := h1
  have ty : ∀ {a t : Nat} {cs : Array Value}, Blk wr a t cs → t ≠ 23 → row ≠ some a := fun ha hn e => by
    obtain ⟨_, ds, hd⟩ := hrow _ e
    unfold Blk at ha hd
    rw [ha] at hd; injection hd with hd; injection hd with _ h _; exact hn h
  have mp : ∀ {a : Nat} {f : Int → Option Value}, MapI wr a f → row ≠ some a := fun hm e => by
    obtain ⟨_, ds, hd⟩ := hrow _ e
    exact hm.cells hd rfl
  refine ⟨⟨⟨k1.grown hg (ty k1 (by decide)), k2.grown hg (ty k2 (by decide)), k3.grown hg (ty k3 (by decide))⟩, k4.grown hg (mp k4), ⟨fl, ⟨k5.grown hg (ty k5 (by decide)), own_stay k6 fun g hgg => hg.block g (own_lt k6 hgg).2 (fun e => ?_)⟩, k7⟩, k8, Nat.le_trans k9 hg.size⟩, ⟨h2.grown hg (mp h2), h2'⟩, h4.grown hg h4.size (fun g e => (hrow g e).1)⟩
  obtain ⟨cs, hc⟩ := own_ty k6 hgg
  exact ty (t := 3) (cs := cs) hc (by decide) e.symm
theorem Ao.app {w0 wr w' : World} {q : Cfg} {gl : Nat} {lf : Int → Option Value} {v vo vn : Value} {s : St} {out : List In} {y : In} {o : Obj} (h : Ao w0 wr q gl lf v vo s out)
    (ho : w'.ownsRow w0.heap.size 23 6 vn (out.length + 1) (aCs out ++ aCs [y])) (hg : (wr.alloc o).grownBy w' vo.ownBlock) : Ao w0 w' q gl lf v vn s (out ++ [y]) := by
  have ha := h.later (bAlloc wr o)
  obtain ⟨k1, k2, k3⟩ := ha.grown hg (fun g e => ⟨(own_lt ha.2.2.1 e).1, own_ty ha.2.2.1 e⟩)
  exact ⟨k1, k2, by rw [aCs_app, List.length_append]; exact ho, k3, h.2.2.2.2⟩
theorem aCs_one (l : List In) : ∀ u ∈ aCs l, u.oneCell' = true := by
  induction l with
  | nil => intro u hu; simp [aCs] at hu
  | cons x t ih =>
    intro u hu
    simp only [aCs, List.mem_cons] at hu
    rcases hu with rfl | rfl | rfl | rfl | rfl | rfl | hu
    all_goals first | rfl | exact ih u hu
theorem row_news (w : World) (y : In) : ∀ j u, (aCs [y])[j]? = some u → (w.alloc (.cells #[.int .i64 y.op, .int .i64 y.r, .int .i64 y.a, .int .i64 y.n, .string y.nm, .int .i64 y.ar] 23)).cell? ((⟨w.heap.size, 0, none⟩ : Addr).add j) = some u := fun j u hu => by
  have h := (BoxI.new w y).cell j
  have e : (⟨w.heap.size, 0, none⟩ : Addr).add j = ⟨w.heap.size, j, none⟩ := by cases j <;> simp [Addr.add]
  rw [e, h]
  simpa [aCs] using hu
theorem pop_min {m m0 : Int} {l l' fs : List Int} (h : (m :: l').Perm l) (hm : ∀ y ∈ l, m ≤ y) (hp : l.Perm (m0 :: fs)) (hs : (m0 :: fs).Pairwise (· ≤ ·)) : m = m0 ∧ l'.Perm fs := by
  have h1 : m ∈ m0 :: fs := hp.mem_iff.1 (h.mem_iff.1 List.mem_cons_self)
  have h2 : m ≤ m0 := hm m0 (hp.mem_iff.2 List.mem_cons_self)
  have h3 : m0 ≤ m := by
    rcases List.mem_cons.1 h1 with e | e
    · rw [e]; exact Int.le_refl _
    · exact (List.pairwise_cons.1 hs).1 m e
  have e : m = m0 := by omega
  subst e
  exact ⟨rfl, (h.trans hp).cons_inv⟩
theorem readStep_next (la : Int → Nat) (base : Int) (k : Nat) (wr : List Int) : ∀ (l : List Int) (s : St), (l.foldl (readStep la base k wr) s).next = s.next
  | [], _ => rfl
  | x :: l, s => by rw [List.foldl_cons, readStep_next]; unfold readStep; split <;> rfl
theorem endStep_next (la : Int → Nat) (base : Int) (k : Nat) : ∀ (l : List Int) (s : St), (l.foldl (endStep la base k) s).next = s.next
  | [], _ => rfl
  | x :: l, s => by rw [List.foldl_cons, endStep_next]; unfold endStep; split <;> rfl
def RetAlloc (w : World) (l : List In) (base : Int) (e : Ending) (w' : World) : Prop :=
  ∃ v, e = .returned (.tuple #[v, .int .i64 (allocP l base).2.most]) ∧ w'.ownsRow w.heap.size 23 6 v (allocP l base).1.length (aCs (allocP l base).1) ∧ Below w.heap.size w w'
set_option maxRecDepth 100000 in
set_option maxHeartbeats 2000000 in
theorem allocate_any (A : Option Addr) (n c : Nat) (l : List In) (base : Int) (w : World) (ha : InsAt w w.heap.size A n l) (hn : n ≤ 60) (hb0 : 0 ≤ base) (hb1 : base ≤ 4096) :
    Calls Try.prog 29 #[.slice A n c, .int .i64 base] w (RetAlloc w l base) := by
  have HA := Lib.hid ha
  obtain ⟨j23, hj1, hj2, hj3, hj4⟩ := info_parts info23
  have HJ3 := Lib.hid hj3
  clear hj3
  have hmm := @run_makeMap Try.prog
  go_enter Try.func29, Try.ntmps29
  go_wp2_with fail
  refine (lasts_any A n c l base w ha hn).mono ?_
  rintro e w1 ⟨gl, rfl, hl⟩
  have HL := Lib.hid hl
  have hz1 := hl.2.2.size
  clear hl ha
  go_wp2_with fail
  obtain ⟨N0, e1⟩ : ∃ N0, w1.heap.size + 1 = N0 := ⟨_, rfl⟩
  obtain ⟨r, e2⟩ : ∃ r, N0 + 1 = r := ⟨_, rfl⟩
  obtain ⟨fb, e3⟩ : ∃ fb, r + 1 = fb := ⟨_, rfl⟩
  obtain ⟨F0, e4⟩ : ∃ F0, fb + 1 = F0 := ⟨_, rfl⟩
  obtain ⟨U0, e5⟩ : ∃ U0, F0 + 1 = U0 := ⟨_, rfl⟩
  have HS0 := Lib.hid (Ao.start HL.out base N0 r fb F0 U0 e1 e2 e3 e4 e5)
  generalize hg0 : w1.heap.size = g0 at HS0 e1 ⊢
  rw [e1, e2, e3, e4, e5]
  have HG0 := Lib.hid hg0
  clear e1 e2 e3 e4 e5 hg0 hz1
  obtain ⟨q, hF, hf, hN, hg, hU, hh⟩ : ∃ q : Cfg, F0 = q.F0 ∧ fb = q.fb ∧ N0 = q.N0 ∧ g0 = q.g ∧ U0 = q.U0 ∧ r = q.hb := ⟨⟨F0, fb, N0, g0, U0, r⟩, rfl, rfl, rfl, rfl, rfl, rfl⟩
  subst hF hf hN hg hU hh
  replace HS0 : Hid (Ao _ _ q _ _ _ _ _ _) := HS0
  have hla := lasts_get l base
  generalize hlf : lastsF l base = lf at hla HS0 HL
  have HLF := Lib.hid hlf
  have HLA := Lib.hid hla
  clear hlf hla
  go_loopw [4, 5, 9, 36] (fun vo mo nx i wr => ∃ (k : Nat) (s : St) (v : Value) (out : List In), i = .int .i64 k ∧ k ≤ n ∧ mo = .int .i64 s.most ∧ nx = .int .i64 s.next ∧
      Hid (Ao w wr q gl lf v vo s out) ∧ Hid (Tb s ≤ 4097 + 16392 * k ∧ out.length = k) ∧ Hid (allocI (laOf l base) base k (l.drop k) s out = allocP l base)) (fun _ _ _ i _ => n - (intOf i).toNat)
  case atStart => exact ⟨0, st0 base, _, [], rfl, Nat.zero_le _, rfl, rfl, HS0, Lib.hid ⟨by unfold Tb st0; simp; omega, rfl⟩, Lib.hid rfl⟩
  case round =>
    clear HS0
    obtain ⟨k, s, v, out, rfl, hk, rfl, rfl, HO, HT, HD⟩ := hrel
    by_cases hlt : k < n
    · obtain ⟨b, off, x, rfl, hbb, hx, hcs⟩ := HA.out.at hlt
      obtain ⟨q0, q1, q2, q3, q4, q5⟩ := hcs.below hbb HO.out.2.2.2.1
      have hdr := alloc_drop (laOf l base) base l s out k x hx
      have HX := Lib.hid (And.intro hx hdr)
      have hbz : b < wr.heap.size := by have := HO.out.2.2.2.1.size; omega
      clear hx hdr hcs
      go_upto_region 10 with (fail)
      have HB1 := Lib.hid (BoxI.new wr x)
      have HO1 := Lib.hid (HO.out.later (bAlloc wr (.cells #[.int .i64 x.op, .int .i64 x.r, .int .i64 x.a, .int .i64 x.n, .string x.nm, .int .i64 x.ar] 23)))
      generalize hW1 : wr.alloc (.cells #[.int .i64 x.op, .int .i64 x.r, .int .i64 x.a, .int .i64 x.n, .string x.nm, .int .i64 x.ar] 23) = W0 at HB1 HO1 ⊢
      clear hW1
      have HVO : Hid (∀ g, u4.ownBlock = some g → g < wr.heap.size) := Lib.hid fun g hg => (own_lt HO.out.2.2.1 hg).2
      have HB13 : Hid (w.heap.size ≤ wr.heap.size) := Lib.hid HO.out.2.2.2.1.size
      generalize hb13 : wr.heap.size = b13 at HB1 HVO HB13 hbz ⊢
      have HBE := Lib.hid hb13
      clear hb13
      obtain ⟨W1, HW1⟩ : ∃ X, Hid (X = W0.drew) := ⟨_, Lib.hid rfl⟩
      have hd0 : Below W0.heap.size W0 W1 := by rw [HW1.out]; exact bDrew W0
      replace HB1 := Lib.hid (HB1.out.next hd0)
      replace HO1 := Lib.hid (HO1.out.later hd0)
      clear hd0
      have hlr := rd_len x
      have hlw := wr_len2 x
      have HUB : Hid (q.U0 < W1.heap.size) := Lib.hid HO1.out.1.lt.2.2.2.2
      have HVB : Hid (∀ g, v.ownBlock = some g → g < W1.heap.size) := Lib.hid fun g hg => by
        obtain ⟨_, _, ⟨fl, h5, _⟩, _⟩ := HO1.out.1
        exact (own_lt h5.2 hg).2
      refine wp_region_N (fun w' => BoxI w' b13 x) (fun _ => true) (by kernel_rfl) ?_
      rw [← HW1.out]
      clear q0 q1 q2 q3 q4 q5 HW1
      have hS0 : (fun w' => BoxI w' b13 x) W1 := HB1.out
      refine wpAnyN_take (i := 0) (v := ?v1) rfl (by kernel_rfl) (by kernel_rfl) (by kernel_rfl) (by kernel_rfl) (fun _ _ _ h => h) (Or.inl ⟨by rfl, ?hy1⟩) (by assumption) ?_
      case hy1 => intro w hSw; obtain ⟨i0, i1, i2, i3, i4, i5⟩ := BoxI.cells hSw; go_simp; try with_reducible rfl
      simp only [Act.put, List.getElem_toArray, List.getElem_cons_zero, List.setIfInBounds_toArray, List.set_cons_zero, List.set_cons_succ]
      refine wpAnyN_take (i := 2) (v := ?v2) rfl (by kernel_rfl) (by kernel_rfl) (by kernel_rfl) (by kernel_rfl) (fun _ _ _ h => h) (Or.inl ⟨by rfl, ?hy2⟩) (by assumption) ?_
      case hy2 => intro w hSw; obtain ⟨i0, i1, i2, i3, i4, i5⟩ := BoxI.cells hSw; go_simp; try with_reducible rfl
      simp only [Act.put, List.getElem_toArray, List.getElem_cons_zero, List.getElem_cons_succ, List.setIfInBounds_toArray, List.set_cons_zero, List.set_cons_succ]
      refine wpAnyN_one (i := 1) (by kernel_rfl) rfl (fun K hK => ?_)
      simp only [List.getElem_toArray, List.getElem_cons_zero, List.getElem_cons_succ]
      go_simp
      refine (reads_any x _).mono ?_
      rintro e w2 ⟨v2, rfl, ho2⟩
      obtain ⟨A2, c2, rfl, _⟩ := own_form ho2.1
      have hS2 : (fun w' => BoxI w' b13 x) w2 := hS0.next ho2.2
      have HR1 := Lib.hid ho2.1
      have HO2 := Lib.hid (HO1.out.later ho2.2)
      have hz2 := ho2.2.size
      clear ho2
      refine hK _ _ (fun _ => hS2) ?_
      (try simp only [Act.put, List.setIfInBounds_toArray, List.set_cons_zero, List.set_cons_succ])
      refine wpAnyN_one (i := 3) (by kernel_rfl) rfl (fun K hK => ?_)
      simp only [List.getElem_toArray, List.getElem_cons_zero, List.getElem_cons_succ]
      go_simp
      refine (writes_any x _).mono ?_
      rintro e w3 ⟨v3, rfl, ho3⟩
      obtain ⟨A3, c3, rfl, _⟩ := own_form ho3.1
      have HR2 := Lib.hid (own_base (base' := W1.heap.size) ho3.1 hz2)
      have HR1' := Lib.hid (own_next HR1.out ho3.2)
      have HO3 := Lib.hid (HO2.out.later ho3.2)
      have hS3 : (fun w' => BoxI w' b13 x) w3 := hS2.next ho3.2
      clear ho3
      refine hK _ _ (fun _ => hS3) ?_
      (try simp only [Act.put, List.setIfInBounds_toArray, List.set_cons_zero, List.set_cons_succ])
      refine wpAnyN_take (i := 4) (v := ?v3) rfl (by kernel_rfl) (by kernel_rfl) (by kernel_rfl) (by kernel_rfl) (fun _ _ _ h => h) (Or.inl ⟨by rfl, ?hy3⟩) (by assumption) ?_
      case hy3 => intro w hSw; (try dsimp only at hSw); go_simp; try with_reducible rfl
      simp only [Act.put, List.getElem_toArray, List.getElem_cons_zero, List.getElem_cons_succ, List.setIfInBounds_toArray, List.set_cons_zero, List.set_cons_succ]
      refine wpAnyN_take (i := 5) (v := ?v4) rfl (by kernel_rfl) (by kernel_rfl) (by kernel_rfl) (by kernel_rfl) (fun _ _ _ h => h) (Or.inl ⟨by rfl, ?hy4⟩) (by assumption) ?_
      case hy4 => intro w hSw; (try dsimp only at hSw); go_simp; try with_reducible rfl
      simp only [Act.put, List.getElem_toArray, List.getElem_cons_zero, List.getElem_cons_succ, List.setIfInBounds_toArray, List.set_cons_zero, List.set_cons_succ]
      refine wpAnyN_done (by kernel_rfl) ?_ _
      have HB3 := Lib.hid hS3
      clear hS0 hS2 hS3 HO2 HO1 HB1 HR1 hz2
      go_wp2_with fail
      go_loopw [47] (fun i wj => ∃ (j : Nat) (v' : Value), i = .int .i64 j ∧ j ≤ (rdOf x).length ∧ Hid (Ao w wj q gl lf v' u4 (((rdOf x).take j).foldl (readStep (laOf l base) base k (wrOf x)) s) out ∧ Turn w3 wj q v v')) (fun i _ => (rdOf x).length - (intOf i).toNat)
      case atStart => exact ⟨0, v, rfl, Nat.zero_le _, Lib.hid ⟨HO3.out, Turn.refl _ _ _⟩⟩
      case round =>
        obtain ⟨j, v', rfl, hj, HJ⟩ := hrel
        by_cases hjl : j < (rdOf x).length
        · have hrow := Turn.row_ HO3.out.1 HJ.out.2 HR1'.out HUB.out HVB.out
          have hrow2 := Turn.row_ HO3.out.1 HJ.out.2 HR2.out HUB.out HVB.out
          obtain ⟨b4, off4, z, rfl, hb4, hz, hcz⟩ := (own_ints hrow (by omega)).at hjl
          have HI2 := Lib.hid (own_ints hrow2 (by omega))
          have HZ := Lib.hid hz
          have hlk := HJ.out.1.2.1.1.lookN z
          rw [HLA.out] at hlk
          have HSN := Lib.hid (fold_snoc (f := readStep (laOf l base) base k (wrOf x)) hz s)
          have htb := tb_fold (tb_read (laOf l base) base k (wrOf x)) ((rdOf x).take j) s
          have htl : ((rdOf x).take j).length ≤ 8192 := by simp; omega
          generalize ((rdOf x).take j).foldl (readStep (laOf l base) base k (wrOf x)) s = sj at HJ HSN htb
          clear hz hrow hrow2
          by_cases h1 : base < z
          · by_cases h2 : laOf l base z = k
            · have h2' : ((laOf l base z : Int) == (k : Int)) = true := by rw [beq_iff_eq]; omega
              have H2 := Lib.hid h2
              clear h2
              go_wp2_with fail
              refine (contains_any _ _ _ _ _ _ HI2.out).mono ?_
              rintro e w' ⟨rfl, rfl⟩
              cases hc : (wrOf x).contains z with
              | true =>
                have HE : Hid (readStep (laOf l base) base k (wrOf x) sj z = sj) := Lib.hid (by unfold readStep; rw [hc]; simp)
                clear hc
                go_wp2_with fail
                exact ⟨⟨j + 1, v', by go_num, by omega, Lib.hid (by rw [HSN.out, HE.out]; exact HJ.out)⟩, by simp [intOf]; omega⟩
              | false =>
                have HE : Hid (readStep (laOf l base) base k (wrOf x) sj z = sj.release z) := Lib.hid (by unfold readStep; rw [hc, H2.out]; simp [h1])
                clear hc
                have hk6 := HT.out.1
                go_wp2_with fail
                refine (release_any q v' sj z _ HJ.out.1.1 (by omega)).mono ?_
                rintro e w6 ⟨rfl, v6, ha6, ht6⟩
                have HJ6 := Lib.hid (And.intro (HJ.out.1.turn ht6 ha6) (HJ.out.2.trans ht6))
                clear ha6 ht6
                go_wp2_with fail
                exact ⟨⟨j + 1, v6, by go_num, by omega, Lib.hid (by rw [HSN.out, HE.out]; exact HJ6.out)⟩, by simp [intOf]; omega⟩
            · have h2' : ((laOf l base z : Int) == (k : Int)) = false := by rw [beq_eq_false_iff_ne]; omega
              have HE : Hid (readStep (laOf l base) base k (wrOf x) sj z = sj) := Lib.hid (by unfold readStep; rw [show (laOf l base z == k) = false by simpa using h2]; simp)
              clear h2
              go_wp2_with fail
              exact ⟨⟨j + 1, v', by go_num, by omega, Lib.hid (by rw [HSN.out, HE.out]; exact HJ.out)⟩, by simp [intOf]; omega⟩
          · have h1' : decide (base < z) = false := by simpa using h1
            have HE : Hid (readStep (laOf l base) base k (wrOf x) sj z = sj) := Lib.hid (by unfold readStep; rw [h1']; simp)
            clear h1
            go_wp2_with fail
            exact ⟨⟨j + 1, v', by go_num, by omega, Lib.hid (by rw [HSN.out, HE.out]; exact HJ.out)⟩, by simp [intOf]; omega⟩
        · have HJ1 : Hid (Ao w wr q gl lf v' u4 ((rdOf x).foldl (readStep (laOf l base) base k (wrOf x)) s) out ∧ Turn w3 wr q v v') := by
            have := HJ.out
            rw [List.take_of_length_le (by omega)] at this
            exact Lib.hid this
          have hs1n : ((rdOf x).foldl (readStep (laOf l base) base k (wrOf x)) s).next = s.next := readStep_next _ _ _ _ _ _
          have hs1t := tb_fold (tb_read (laOf l base) base k (wrOf x)) (rdOf x) s
          have hs1m := readStep_most (laOf l base) base k (wrOf x) (rdOf x) s
          generalize hs1 : (rdOf x).foldl (readStep (laOf l base) base k (wrOf x)) s = s1 at HJ1 hs1n hs1t hs1m
          have HS1 := Lib.hid (And.intro hs1 hs1m)
          have HS1N := Lib.hid hs1n
          clear hs1 hs1n HJ hs1m
          rename_i wr2
          go_wp2_with fail
          go_loopw [9, 73] (fun nx i wj => ∃ (j : Nat) (v' : Value), i = .int .i64 j ∧ j ≤ (wrOf x).length ∧ nx = .int .i64 (((wrOf x).take j).foldl (writeStep base) s1).next ∧ Hid (Ao w wj q gl lf v' u4 (((wrOf x).take j).foldl (writeStep base) s1) out ∧ Turn w3 wj q v v')) (fun _ i _ => (wrOf x).length - (intOf i).toNat)
          case atStart => exact ⟨0, v', rfl, Nat.zero_le _, by rw [← HS1N.out]; rfl, HJ1⟩
          case round =>
            obtain ⟨j, v', rfl, hj, rfl, HJ⟩ := hrel
            by_cases hjl : j < (wrOf x).length
            · have hrow2 := Turn.row_ HO3.out.1 HJ.out.2 HR2.out HUB.out HVB.out
              obtain ⟨b4, off4, z, rfl, hb4, hz, hcz⟩ := (own_ints hrow2 (by omega)).at hjl
              have hlk := HJ.out.1.1.2.1.lookOk z
              rw [numF_get, numF_some] at hlk
              obtain ⟨⟨k1, k2, k3⟩, _⟩ := HJ.out.1.1
              have d1 := k1.cell 0
              have d2 := k2.cell 0
              have HSN := Lib.hid (fold_snoc (f := writeStep base) hz s1)
              have htb := tb_fold (tb_write base) ((wrOf x).take j) s1
              have htl : ((wrOf x).take j).length ≤ 2 := by simp; omega
              generalize ((wrOf x).take j).foldl (writeStep base) s1 = sj at HJ HSN htb hlk k3 ⊢
              clear hz hrow2 k1 k2 k3
              cases hlz : look sj.num z with
              | some m7 =>
                rw [hlz] at hlk
                have HE : Hid (writeStep base sj z = sj) := Lib.hid (by unfold writeStep; rw [hlz]; simp)
                clear hlz
                go_wp2_with fail
                exact ⟨⟨j + 1, v', by go_num, by omega, by rw [HSN.out, HE.out], Lib.hid (by rw [HSN.out, HE.out]; exact HJ.out)⟩, by simp [intOf]; omega⟩
              | none =>
                rw [hlz] at hlk
                by_cases hzb : z ≤ base
                · have HE : Hid (writeStep base sj z = sj) := Lib.hid (by unfold writeStep; rw [hlz]; simp [hzb])
                  clear hlz
                  go_wp2_with fail
                  exact ⟨⟨j + 1, v', by go_num, by omega, by rw [HSN.out, HE.out], Lib.hid (by rw [HSN.out, HE.out]; exact HJ.out)⟩, by simp [intOf]; omega⟩
                · have hzb' : decide (z ≤ base) = false := by simpa using hzb
                  have HLZ := Lib.hid (And.intro hlz hzb)
                  obtain ⟨_, _, ⟨flx, hhp, hih, hpf, hsrt⟩, _, hhb⟩ := HJ.out.1.1
                  obtain ⟨Ax, cx, rfl⟩ := hhp.form
                  have d3 : wr.cell? ⟨q.fb, 0, none⟩ = some (.slice Ax flx.length cx) := hhp.1.cell 0
                  have hfl := hpf.length_eq
                  clear hlz hzb
                  cases hfr : sj.free with
                  | cons m7 fs7 =>
                    have HFR := Lib.hid hfr
                    have HE : Hid (writeStep base sj z = { sj with num := (z, m7) :: sj.num, free := fs7, use := sj.use + 1 }) := Lib.hid (by
                      unfold writeStep; rw [HLZ.out.1, if_neg (by simpa using HLZ.out.2), hfr])
                    have hflp : 0 < flx.length := by rw [hfl, hfr]; simp
                    have hk7 := HT.out.1
                    have htx : flx.length ≤ 1000000 := by unfold Tb at htb hk7 hs1t; omega
                    rw [hfr] at hpf hsrt
                    clear hfr hfl
                    go_wp2_with fail
                    refine (len_any _ _ _ _).mono ?_
                    rintro e w' ⟨rfl, rfl⟩
                    go_upto_region 23 with (fail)
                    obtain ⟨WX, HWX⟩ : ∃ X, Hid (X = wr.drew) := ⟨_, Lib.hid rfl⟩
                    have hdx : Below wr.heap.size wr WX := by rw [HWX.out]; exact bDrew wr
                    have HJX := Lib.hid (And.intro (HJ.out.1.later hdx) (HJ.out.2.trans (Below.turn hdx)))
                    replace hhp : Hp WX q.fb q.hb (.slice Ax flx.length cx) flx := ⟨hhp.1.next hdx, own_next hhp.2 hdx⟩
                    replace hhb : q.hb ≤ WX.heap.size := Nat.le_trans hhb hdx.size
                    clear hdx d1 d2 d3 hlk
                    refine wp_region_N (fun w' => Blk w' q.N0 59 #[.map (some q.g)] ∧ Blk w' q.F0 61 #[.pointer (some ⟨q.fb, 0, none⟩)]) (fun _ => true) (by kernel_rfl) ?_
                    rw [← HWX.out]
                    clear HWX
                    have hS0 : (fun w' => Blk w' q.N0 59 #[.map (some q.g)] ∧ Blk w' q.F0 61 #[.pointer (some ⟨q.fb, 0, none⟩)]) WX := ⟨HJX.out.1.1.1.2.1, HJX.out.1.1.1.1⟩
                    refine wpAnyN_take (i := 0) (v := ?v5) rfl (by kernel_rfl) (by kernel_rfl) (by kernel_rfl) (by kernel_rfl) (fun _ _ _ h => h) (Or.inl ⟨by rfl, ?hy5⟩) (by assumption) ?_
                    case hy5 => intro w hSw; obtain ⟨hsa, hsb⟩ := hSw; have i0 := hsa.cell 0; have i1 := hsb.cell 0; simp at i0 i1; go_simp; try with_reducible rfl
                    simp only [Act.put, List.getElem_toArray, List.getElem_cons_zero, List.setIfInBounds_toArray, List.set_cons_zero, List.set_cons_succ]
                    refine wpAnyN_take (i := 1) (v := ?v6) rfl (by kernel_rfl) (by kernel_rfl) (by kernel_rfl) (by kernel_rfl) (fun _ _ _ h => h) (Or.inl ⟨by rfl, ?hy6⟩) (by assumption) ?_
                    case hy6 => intro w hSw; obtain ⟨hsa, hsb⟩ := hSw; have i0 := hsa.cell 0; have i1 := hsb.cell 0; simp at i0 i1; go_simp; try with_reducible rfl
                    simp only [Act.put, List.getElem_toArray, List.getElem_cons_zero, List.getElem_cons_succ, List.setIfInBounds_toArray, List.set_cons_zero, List.set_cons_succ]
                    refine wpAnyN_take (i := 2) (v := ?v7) rfl (by kernel_rfl) (by kernel_rfl) (by kernel_rfl) (by kernel_rfl) (fun _ _ _ h => h) (Or.inl ⟨by rfl, ?hy7⟩) (by assumption) ?_
                    case hy7 => intro w hSw; obtain ⟨hsa, hsb⟩ := hSw; have i0 := hsa.cell 0; have i1 := hsb.cell 0; simp at i0 i1; go_simp; try with_reducible rfl
                    simp only [Act.put, List.getElem_toArray, List.getElem_cons_zero, List.getElem_cons_succ, List.setIfInBounds_toArray, List.set_cons_zero, List.set_cons_succ]
                    refine wpAnyN_one (i := 3) (by kernel_rfl) rfl (fun K hK => ?_)
                    simp only [List.getElem_toArray, List.getElem_cons_zero, List.getElem_cons_succ]
                    go_simp
                    refine hK _ _ (fun _ => hS0) ?_
                    (try simp only [Act.put, List.setIfInBounds_toArray, List.set_cons_zero, List.set_cons_succ])
                    refine wpAnyN_one (i := 4) (by kernel_rfl) rfl (fun K hK => ?_)
                    simp only [List.getElem_toArray, List.getElem_cons_zero, List.getElem_cons_succ]
                    go_simp
                    refine (pop_any q.fb q.hb _ flx WX hhp hih (by omega) (by omega)).mono ?_
                    rintro e w7 ⟨mm, v7, l7, rfl, hp7, ⟨hperm7, hih7, hmin7⟩, ht7⟩
                    obtain ⟨rfl, hpl⟩ := pop_min hperm7 hmin7 hpf hsrt
                    have ha7 := HJX.out.1.1.touch ht7 hp7 hih7 hpl (List.pairwise_cons.1 hsrt).2
                    have HJ7 := Lib.hid (And.intro (HJX.out.1.turn ht7.turn ha7) (HJX.out.2.trans ht7.turn))
                    have hS7 : (fun w' => Blk w' q.N0 59 #[.map (some q.g)] ∧ Blk w' q.F0 61 #[.pointer (some ⟨q.fb, 0, none⟩)]) w7 := ⟨ha7.1.2.1, ha7.1.1⟩
                    have ta7 := run_assert mm w7
                    clear ha7 hp7 ht7 hperm7 hmin7 hih7 hpl
                    refine hK _ _ (fun _ => hS7) ?_
                    (try simp only [Act.put, List.setIfInBounds_toArray, List.set_cons_zero, List.set_cons_succ])
                    refine wpAnyN_one (i := 5) (by kernel_rfl) rfl (fun K hK => ?_)
                    simp only [List.getElem_toArray, List.getElem_cons_zero, List.getElem_cons_succ]
                    go_simp
                    refine hK _ _ (fun _ => hS7) ?_
                    (try simp only [Act.put, List.setIfInBounds_toArray, List.set_cons_zero, List.set_cons_succ])
                    refine wpAnyN_take (i := 6) (v := ?v8) rfl (by kernel_rfl) (by kernel_rfl) (by kernel_rfl) (by kernel_rfl) (fun _ _ _ h => h) (Or.inl ⟨by rfl, ?hy8⟩) (by assumption) ?_
                    case hy8 => intro w hSw; (try dsimp only at hSw); go_simp; try with_reducible rfl
                    simp only [Act.put, List.getElem_toArray, List.getElem_cons_zero, List.getElem_cons_succ, List.setIfInBounds_toArray, List.set_cons_zero, List.set_cons_succ]
                    refine wpAnyN_take (i := 7) (v := ?v9) rfl (by kernel_rfl) (by kernel_rfl) (by kernel_rfl) (by kernel_rfl) (fun _ _ _ h => h) (Or.inl ⟨by rfl, ?hy9⟩) (by assumption) ?_
                    case hy9 => intro w hSw; (try dsimp only at hSw); go_simp; try with_reducible rfl
                    simp only [Act.put, List.getElem_toArray, List.getElem_cons_zero, List.getElem_cons_succ, List.setIfInBounds_toArray, List.set_cons_zero, List.set_cons_succ]
                    refine wpAnyN_take (i := 8) (v := ?v10) rfl (by kernel_rfl) (by kernel_rfl) (by kernel_rfl) (by kernel_rfl) (fun _ _ _ h => h) (Or.inl ⟨by rfl, ?hy10⟩) (by assumption) ?_
                    case hy10 => intro w hSw; (try dsimp only at hSw); go_simp; try with_reducible rfl
                    simp only [Act.put, List.getElem_toArray, List.getElem_cons_zero, List.getElem_cons_succ, List.setIfInBounds_toArray, List.set_cons_zero, List.set_cons_succ]
                    refine wpAnyN_one (i := 9) (by kernel_rfl) rfl (fun K hK => ?_)
                    simp only [List.getElem_toArray, List.getElem_cons_zero, List.getElem_cons_succ]
                    obtain ⟨w8, hrun8, hM8, hg8, hz8⟩ := HJ7.out.1.1.2.1.update under59 z (.int .i64 mm)
                    obtain ⟨ha8, ht8⟩ := HJ7.out.1.1.setMap (n := mm) (hM8.congr fun y => numF_cons _ _ _ _) hg8 hz8
                    have HJ8 := Lib.hid (And.intro (HJ7.out.1.turn ht8 ha8) (HJ7.out.2.trans ht8))
                    have hS8 : (fun w' => Blk w' q.N0 59 #[.map (some q.g)] ∧ Blk w' q.F0 61 #[.pointer (some ⟨q.fb, 0, none⟩)]) w8 := ⟨ha8.1.2.1, ha8.1.1⟩
                    clear ha8 ht8 hM8 hg8 hz8
                    go_simp
                    refine hK _ _ (fun _ => hS8) ?_
                    (try simp only [Act.put, List.setIfInBounds_toArray, List.set_cons_zero, List.set_cons_succ])
                    refine wpAnyN_done (by kernel_rfl) ?_ _
                    clear hS0 hS7 hS8 HJ7 hhp hih hpf hsrt
                    obtain ⟨⟨u1, u2, u3⟩, _⟩ := HJ8.out.1.1
                    have d1 := u3.cell 0
                    have d2 := u3.frozen 0
                    clear u1 u2 u3
                    have hk6 := HT.out.1
                    unfold Tb at htb hk6 hs1t
                    go_wp2_with fail
                    obtain ⟨hx9, hy9⟩ := HJ8.out.1.1.setU (sj.use + 1)
                    exact ⟨⟨j + 1, _, by go_num, by omega, by rw [HSN.out, HE.out], Lib.hid (by rw [HSN.out, HE.out]; exact ⟨HJ8.out.1.turn hy9 hx9, HJ8.out.2.trans hy9⟩)⟩, by simp [intOf]; omega⟩
                  | nil =>
                    have HE : Hid (writeStep base sj z = { sj with num := (z, sj.next) :: sj.num, next := sj.next + 1, use := sj.use + 1 }) := Lib.hid (by
                      unfold writeStep; rw [HLZ.out.1, if_neg (by simpa using HLZ.out.2), hfr])
                    have hflp : flx.length = 0 := by rw [hfl, hfr]; rfl
                    obtain ⟨w8, hrun8, hM8, hg8, hz8⟩ := HJ.out.1.1.2.1.update under59 z (.int .i64 sj.next)
                    obtain ⟨ha8, ht8⟩ := HJ.out.1.1.setMap (n := sj.next) (hM8.congr fun y => numF_cons _ _ _ _) hg8 hz8
                    have HJ8 := Lib.hid (And.intro (HJ.out.1.turn ht8 ha8) (HJ.out.2.trans ht8))
                    rw [hflp] at d3
                    clear hfr hflp hfl ha8 ht8 hM8 hg8 hz8 hhp hih hpf hsrt
                    go_wp2_with fail
                    refine (len_any _ _ _ _).mono ?_
                    rintro e w' ⟨rfl, rfl⟩
                    obtain ⟨⟨u1, u2, u3⟩, _⟩ := HJ8.out.1.1
                    have d1 := u3.cell 0
                    have d2 := u3.frozen 0
                    clear u1 u2 u3
                    have hk6 := HT.out.1
                    unfold Tb at htb hk6 hs1t
                    go_wp2_with fail
                    obtain ⟨hx9, hy9⟩ := HJ8.out.1.1.setU (sj.use + 1)
                    exact ⟨⟨j + 1, _, by go_num, by omega, by rw [HSN.out, HE.out], Lib.hid (by rw [HSN.out, HE.out]; exact ⟨HJ8.out.1.turn hy9 hx9, HJ8.out.2.trans hy9⟩)⟩, by simp [intOf]; omega⟩
            · have HJ2 : Hid (Ao w wr q gl lf v' u4 ((wrOf x).foldl (writeStep base) s1).peak out ∧ Turn w3 wr q v v') := by
                have := HJ.out
                rw [List.take_of_length_le (by omega)] at this
                exact Lib.hid this
              have hs2t := tb_fold (tb_write base) (wrOf x) s1
              have hs2m := writeStep_most base (wrOf x) s1
              have hpk : ((wrOf x).foldl (writeStep base) s1).peak.most = max s.most ((wrOf x).foldl (writeStep base) s1).use := by
                show max ((wrOf x).foldl (writeStep base) s1).most ((wrOf x).foldl (writeStep base) s1).use = _
                rw [hs2m, HS1.out.2]
              have hpn : (((wrOf x).take j).foldl (writeStep base) s1).next = ((wrOf x).foldl (writeStep base) s1).peak.next := by
                rw [List.take_of_length_le (by omega)]; rfl
              have hpu : ((wrOf x).foldl (writeStep base) s1).use = ((wrOf x).foldl (writeStep base) s1).peak.use := rfl
              have hpt : Tb ((wrOf x).foldl (writeStep base) s1).peak = Tb ((wrOf x).foldl (writeStep base) s1) := rfl
              rw [← hpt] at hs2t
              rw [hpn]
              rw [hpu] at hpk
              generalize hs2 : ((wrOf x).foldl (writeStep base) s1).peak = s2 at HJ2 hpk hs2t hpn hpu hpt ⊢
              have HS2 := Lib.hid (And.intro hs2 hpk)
              obtain ⟨⟨u1, u2, u3⟩, _⟩ := HJ2.out.1.1
              have d1 := u3.cell 0
              clear hs2 hpk hs2m hpn hpu hpt HJ u1 u2 u3
              go_upto_region 28 with (fail)
              go_cut [5] from 111 to 113 (fun s5 wx => s5 = .int .i64 s2.most ∧ wx = wr)
              case first =>
                go_wp2_with fail
                all_goals go_meet
                all_goals exact ⟨congrArg (Value.int .i64) (by rw [HS2.out.2]; omega), rfl⟩
              case rest =>
                obtain ⟨rfl, rfl⟩ := hcut
                clear d1
                go_wp2_with fail
                go_loopw [116] (fun i wj => ∃ (j : Nat) (v' : Value), i = .int .i64 j ∧ j ≤ (wrOf x).length ∧ Hid (Ao w wj q gl lf v' u4 (((wrOf x).take j).foldl (endStep (laOf l base) base k) s2) out ∧ Turn w3 wj q v v')) (fun i _ => (wrOf x).length - (intOf i).toNat)
                case atStart => exact ⟨0, v', rfl, Nat.zero_le _, HJ2⟩
                case round =>
                  obtain ⟨j, v', rfl, hj, HJ⟩ := hrel
                  by_cases hjl : j < (wrOf x).length
                  · have hrow2 := Turn.row_ HO3.out.1 HJ.out.2 HR2.out HUB.out HVB.out
                    obtain ⟨b4, off4, z, rfl, hb4, hz, hcz⟩ := (own_ints hrow2 (by omega)).at hjl
                    have hlk := HJ.out.1.2.1.1.lookN z
                    rw [HLA.out] at hlk
                    have HSN := Lib.hid (fold_snoc (f := endStep (laOf l base) base k) hz s2)
                    have htb := tb_fold (tb_end (laOf l base) base k) ((wrOf x).take j) s2
                    have htl : ((wrOf x).take j).length ≤ 2 := by simp; omega
                    generalize ((wrOf x).take j).foldl (endStep (laOf l base) base k) s2 = sj at HJ HSN htb
                    clear hz hrow2
                    by_cases h1 : base < z
                    · by_cases h2 : laOf l base z = k
                      · have h2' : ((laOf l base z : Int) == (k : Int)) = true := by rw [beq_iff_eq]; omega
                        have HE : Hid (endStep (laOf l base) base k sj z = sj.release z) := Lib.hid (by unfold endStep; rw [h2]; simp [h1])
                        clear h2
                        have hk6 := HT.out.1
                        go_wp2_with fail
                        refine (release_any q v' sj z _ HJ.out.1.1 (by omega)).mono ?_
                        rintro e w6 ⟨rfl, v6, ha6, ht6⟩
                        have HJ6 := Lib.hid (And.intro (HJ.out.1.turn ht6 ha6) (HJ.out.2.trans ht6))
                        clear ha6 ht6
                        go_wp2_with fail
                        exact ⟨⟨j + 1, v6, by go_num, by omega, Lib.hid (by rw [HSN.out, HE.out]; exact HJ6.out)⟩, by simp [intOf]; omega⟩
                      · have h2' : ((laOf l base z : Int) == (k : Int)) = false := by rw [beq_eq_false_iff_ne]; omega
                        have HE : Hid (endStep (laOf l base) base k sj z = sj) := Lib.hid (by unfold endStep; rw [show (laOf l base z == k) = false by simpa using h2]; simp)
                        clear h2
                        go_wp2_with fail
                        exact ⟨⟨j + 1, v', by go_num, by omega, Lib.hid (by rw [HSN.out, HE.out]; exact HJ.out)⟩, by simp [intOf]; omega⟩
                    · have h1' : decide (base < z) = false := by simpa using h1
                      have HE : Hid (endStep (laOf l base) base k sj z = sj) := Lib.hid (by unfold endStep; rw [h1']; simp)
                      clear h1
                      go_wp2_with fail
                      exact ⟨⟨j + 1, v', by go_num, by omega, Lib.hid (by rw [HSN.out, HE.out]; exact HJ.out)⟩, by simp [intOf]; omega⟩
                  · have HJ33 : Hid (Ao w wr q gl lf v' u4 (instrStep (laOf l base) base k (rdOf x) (wrOf x) s) out ∧ Turn w3 wr q v v') := by
                      have := HJ.out
                      rw [List.take_of_length_le (by omega)] at this
                      refine Lib.hid ?_
                      unfold instrStep
                      rw [HS1.out.1, HS2.out.1]
                      exact this
                    have HNX : Hid (s2.next = (instrStep (laOf l base) base k (rdOf x) (wrOf x) s).next ∧ s2.most = (instrStep (laOf l base) base k (rdOf x) (wrOf x) s).most) := Lib.hid (by
                      unfold instrStep
                      rw [HS1.out.1, HS2.out.1, endStep_next, endStep_most]
                      exact ⟨rfl, rfl⟩)
                    have hbx : BoxI wr b13 x := Turn.cells HO3.out.1 HJ33.out.2 HB3.out (by decide) (by decide)
                    have HBX := Lib.hid hbx
                    have hal := HJ33.out.1.1
                    have HTS := Lib.hid (tb_step (laOf l base) base k x s)
                    have HO4 := Lib.hid HJ33.out.1
                    clear HJ HJ33 hbx
                    generalize instrStep (laOf l base) base k (rdOf x) (wrOf x) s = s3 at HO4 hal HNX HTS HX
                    go_wp2_with fail
                    refine (change_any q.N0 q.g b13 1 _ s3.num x.r _ hal.1.2.1 hal.2.1 HBX.out rfl).mono ?_
                    rintro e w5 ⟨rfl, hb5, hg5, hz5⟩
                    have HB5 : Hid (BoxI w5 b13 { x with r := (look s3.num x.r).getD x.r }) := Lib.hid hb5
                    obtain ⟨hal5, hml5, hbl5⟩ := HO4.out.grown hg5 (fun g e => by injection e with e; subst e; exact ⟨HB13.out, _, HBX.out⟩)
                    have HO5 : Hid (Ao w w5 q gl lf v' u4 s3 out) := Lib.hid ⟨hal5, hml5, own_stay HO4.out.2.2.1 fun g hg => hg5.block g (own_lt HO4.out.2.2.1 hg).2 (fun e => by injection e with e; have := HVO.out g hg; omega), hbl5, HO4.out.2.2.2.2⟩
                    clear hb5 hg5 hz5 hml5 hbl5 hal
                    go_wp2_with fail
                    refine (change_any q.N0 q.g b13 2 _ s3.num x.a _ hal5.1.2.1 hal5.2.1 HB5.out rfl).mono ?_
                    rintro e w6 ⟨rfl, hb6, hg6, hz6⟩
                    have hb6' : BoxI w6 b13 (renI s3.num x) := hb6
                    obtain ⟨hal6, hml6, hbl6⟩ := HO5.out.grown hg6 (fun g e => by injection e with e; subst e; exact ⟨HB13.out, _, HB5.out⟩)
                    have HO6 : Hid (Ao w w6 q gl lf v' u4 s3 out) := Lib.hid ⟨hal6, hml6, own_stay HO5.out.2.2.1 fun g hg => hg6.block g (own_lt HO5.out.2.2.1 hg).2 (fun e => by injection e with e; have := HVO.out g hg; omega), hbl6, HO5.out.2.2.2.2⟩
                    obtain ⟨i0, i1, i2, i3, i4, i5⟩ := BoxI.cells hb6'
                    generalize hy : renI s3.num x = y at i0 i1 i2 i3 i4 i5 HX
                    have HY := Lib.hid hy
                    have hkk := HT.out.2
                    have hzo := HO6.out.2.2.2.1.size
                    clear hb6 hb6' hg6 hz6 hml6 hbl6 hal6 hal5 hy
                    go_wp2_with (at_builtin; refine wpList_append_own_at _ rfl (.tmp 141) (.tmp 143) 27 rfl w.heap.size 23 j23 (.agg #[.int .i64 0, .int .i64 0, .int .i64 0, .int .i64 0, .string ⟨#[]⟩, .int .i64 0]) 6 56 Try.underlying27 hj1 hj2 HJ3.out hj4 rfl (by decide) _ _ _ rfl (HO6.out.2.2.1.alloc _) ⟨w6.heap.size, 0, none⟩ 1 1 (aCs [y]) rfl rfl ?f1 ?f2 ?f3 ?f4 ?f5 ?_)
                    case f1 => exact row_news _ _
                    case f2 => exact aCs_one _
                    case f3 => unfold maxLen; omega
                    case f4 => omega
                    case f5 => simp; omega
                    intro vn w8 ho8 hg8 _ hat8
                    have HO8 : Hid (Ao w w8 q gl lf v' vn s3 (out ++ [y])) := Lib.hid (HO6.out.app (by rw [HT.out.2]; exact ho8) hg8)
                    clear ho8 hg8 hat8
                    go_wp2_with fail
                    exact ⟨⟨k + 1, s3, v', out ++ [y], by go_num, by omega, by rw [HNX.out.2], by rw [HNX.out.1], HO8, Lib.hid ⟨by have := HTS.out; have := HT.out.1; omega, by simp; omega⟩, Lib.hid (by rw [← HX.out.2]; exact HD.out)⟩, by simp [intOf]; omega⟩
    · have HE : Hid (allocP l base = (out, s)) := Lib.hid (by rw [← HD.out, List.drop_of_length_le (by have := HA.out.len; omega)]; rfl)
      go_wp2_with fail
      go_ret2
      refine ⟨u4, ?_, ?_⟩
      · rw [HE.out]; rfl
      · rw [HE.out]; exact ⟨HO.out.2.2.1, HO.out.2.2.2.1⟩
end Go.Proofs.Yteffpeokialeiaa
