/-
  The walk of the law IndexUnifies.
-/
import Derived.Test.YtpkpdjekoghkcaaUi
import Derived.Test.YtpkpdjekoghkcaaWq
import Derived.Test.YtpkpdjekoghkcaaRt
namespace Go.Proofs.Ytpkpdjekoghkcaa
open Go.RowKit

theorem okK_key (t : Tm) : okK (keyT t) = true := by
  unfold keyT
  split
  · rename_i hv
    have h := (valid_ok hv).ok
    rw [okT_eq] at h
    simp only [Bool.and_eq_true] at h
    have h1 := h.1
    unfold nodeB at h1
    split
    · simp [okK]
    split
    · rename_i h2 h3
      simp only [beq_iff_eq] at h2 h3
      rw [h3] at h1
      simp at h1
      simp [okK]
      omega
    split
    · rename_i h2 h3 h4
      simp only [beq_iff_eq] at h2 h3 h4
      rw [h4] at h1
      simp at h1
      simp [okK]
      omega
    · simp [okK, zeroK, eqK]
  · simp [okK, zeroK, eqK]
theorem keys_match {a b c : Tm} (ha : validT a = true) (hb : validT b = true) (hr : RenR b c) (hs : a.kind ≠ 0 → c.kind ≠ 0 → SameF a c) : matK (keyT a) (keyT b) = true := by
  obtain ⟨r1, r2, r3, r4⟩ := hr
  unfold matK
  by_cases hka : a.kind = 0
  · have : keyT a = zeroK := by simp [keyT, ha, hka]
    rw [this]
    simp [zeroK]
  by_cases hkb : b.kind = 0
  · have : keyT b = zeroK := by simp [keyT, hb, hkb]
    rw [this]
    simp [zeroK]
  obtain ⟨s1, s2, s3, s4⟩ := hs hka (by rw [r1]; exact hkb)
  have h1 : a.kind = b.kind := s1.trans r1
  have h2 : a.n = b.n := s2.trans (r2 hkb)
  have h3 : a.name = b.name := s3.trans r3
  have h4 : a.args.length = b.args.length := s4.trans r4
  have : keyT a = keyT b := by unfold keyT; rw [ha, hb, h1, h2, h3, h4]
  rw [this]
  simp [K.eqv, eqK]
theorem ints_new {w : World} (o : Array Value) (x : Int) (ho : o = #[.int .i64 x]) (t : TypeId) : IntsAt (w.alloc (.cells o t)) (w.alloc (.cells o t)).heap.size (some ⟨w.heap.size, 0, none⟩) 1 [x] := by
  subst ho
  refine ⟨⟨rfl, by omega⟩, fun _ => ⟨w.heap.size, 0, rfl, by simp, fun i y hy => ?_⟩⟩
  have h := (Blk.new w t #[.int .i64 x]).cell i
  rw [Nat.zero_add, h]
  cases i with
  | zero => simp at hy; subst hy; rfl
  | succ i => simp at hy
set_option maxRecDepth 100000 in
set_option maxHeartbeats 8000000 in
theorem law9_any (a : Tm) (Aa : Option Addr) (ca : Nat) (b : Tm) (Ab : Option Addr) (cb : Nat) (w : World) (ha : ArgsAt w (Old w.heap.size) Aa a.args) (hb : ArgsAt w (Old w.heap.size) Ab b.args) :
    Calls Try.prog 9 #[a.v Aa ca, b.v Ab cb] w fun e w' => e = .returned (.bool true) ∧ Below w.heap.size w w' := by
  obtain ⟨X, HX⟩ : ∃ X, Hid (X = (w.alloc (.cells #[.int .i64 a.kind, .int .i64 a.n, .string a.name, .slice Aa a.args.length ca] 47)).alloc (.cells #[.int .i64 b.kind, .int .i64 b.n, .string b.name, .slice Ab b.args.length cb] 47)) := ⟨_, rfl⟩
  have hbX : Below w.heap.size w X := by rw [HX.out]; exact (bAlloc w _).alloc (by simp) _
  obtain ⟨r1, hr1⟩ : ∃ q, Hid (q = w.heap.size) := ⟨_, rfl⟩
  obtain ⟨r2, hr2⟩ : ∃ q, Hid (q = w.heap.size + 1) := ⟨_, rfl⟩
  have hk1 : Blk X r1 47 #[.int .i64 a.kind, .int .i64 a.n, .string a.name, .slice Aa a.args.length ca] := by rw [HX.out, hr1.out]; exact (Blk.new w _ _).alloc _
  have hk2 : Blk X r2 47 #[.int .i64 b.kind, .int .i64 b.n, .string b.name, .slice Ab b.args.length cb] := by
    rw [HX.out, hr2.out]
    have h1 := Blk.new (w.alloc (.cells #[.int .i64 a.kind, .int .i64 a.n, .string a.name, .slice Aa a.args.length ca] 47)) 47 #[.int .i64 b.kind, .int .i64 b.n, .string b.name, .slice Ab b.args.length cb]
    rw [World.size_alloc] at h1
    exact h1
  have HA := Lib.hid (ha.next hbX)
  have HD := Lib.hid (hb.next hbX)
  have HB := Lib.hid hbX
  have HK1 := Lib.hid hk1
  have HK2 := Lib.hid hk2
  clear ha hb hbX hk1 hk2
  go_enter Try.func9, Try.ntmps9
  go_upto_region 1 with fail
  rw [← HX.out, ← hr2.out, ← hr1.out]
  clear HX
  go_wp2_with fail
  refine (example_any X).mono ?_
  rintro e w1 ⟨rfl, hb1⟩
  have HA1 := Lib.hid (HA.out.next hb1)
  have HD1 := Lib.hid (HD.out.next hb1)
  have HBw1 := Lib.hid (bNext HB.out hb1)
  have HK11 := Lib.hid (HK1.out.below hb1 HK1.out.lt)
  have HK21 := Lib.hid (HK2.out.below hb1 HK2.out.lt)
  clear hb1
  have p0 := HK11.out.cell 0
  have p1 := HK11.out.cell 1
  have p2 := HK11.out.cell 2
  have p3 := HK11.out.cell 3
  have lp := HK11.out.lt
  have s0 := HK21.out.cell 0
  have s1 := HK21.out.cell 1
  have s2 := HK21.out.cell 2
  have s3 := HK21.out.cell 3
  have ls := HK21.out.lt
  simp at p0 p1 p2 p3 s0 s1 s2 s3
  go_wp2_with fail
  refine (vars27_any a Aa ca w1 HA1.out).mono ?_
  rintro e w2 ⟨⟨Al, nl, cl, l, rfl, hI, hnl, hbd⟩, hb2⟩
  have HI := Lib.hid hI
  have HBD := Lib.hid hbd
  have HA2 := Lib.hid (HA1.out.next hb2)
  have HD2 := Lib.hid (HD1.out.next hb2)
  have HBw2 := Lib.hid (bNext HBw1.out hb2)
  have HK12 := Lib.hid (HK11.out.below hb2 HK11.out.lt)
  have HK22 := Lib.hid (HK21.out.below hb2 HK21.out.lt)
  clear hb2 p0 p1 p2 p3 lp s0 s1 s2 s3 ls
  have p0 := HK12.out.cell 0
  have p1 := HK12.out.cell 1
  have p2 := HK12.out.cell 2
  have p3 := HK12.out.cell 3
  have lp := HK12.out.lt
  have s0 := HK22.out.cell 0
  have s1 := HK22.out.cell 1
  have s2 := HK22.out.cell 2
  have s3 := HK22.out.cell 3
  have ls := HK22.out.lt
  simp at p0 p1 p2 p3 s0 s1 s2 s3
  clear hI hbd
  go_wp2_with fail
  go_loopw [5, 16] (fun tp i wr => ∃ (k : Nat) (T : Int), k ≤ nl ∧ i = .int .i64 (k : Int) ∧ tp = .int .i64 T ∧ 0 ≤ T ∧ T ≤ 1099511627777 ∧ Hid (wr = w2)) (fun _ i _ => nl - (intOf i).toNat)
  case atStart => exact ⟨0, 0, by omega, rfl, rfl, by omega, by omega, Lib.hid rfl⟩
  case round =>
    obtain ⟨k, T, hk, rfl, rfl, hT0, hT1, hwr⟩ := hrel
    obtain rfl := hwr.out
    clear hwr
    by_cases hlt : k < nl
    · obtain ⟨b', off, x, rfl, hbI, hx, h1⟩ := HI.out.at hlt
      have hxb := HBD.out x (List.mem_of_getElem? hx)
      have hx0 := hxb.1
      have hx1 := hxb.2
      clear hx hxb
      go_wp2_with fail
      exact ⟨⟨k + 1, max T (x + 1), by omega, by go_num, by go_num, by omega, by omega, Lib.hid (by first | rfl | trivial)⟩, by simp [intOf]; omega⟩
    · by_cases hg : 1099511627776 < T
      · have hg1 : decide (T > 1099511627776) = true := by simp; omega
        have hg2 : decide (1099511627776 < T) = true := by simp; omega
        go_wp2_with fail
        go_ret
        exact ⟨rfl, HBw2.out⟩
      · have hg1 : decide (T > 1099511627776) = false := by simp; omega
        have hg2 : decide (1099511627776 < T) = false := by simp; omega
        go_wp2_with fail
        refine (rename_any b Ab cb T hT0 (by omega) wr HD2.out).mono ?_
        rintro e w3 ⟨⟨t', A', c', er, rfl, hta, hre⟩, hb3⟩
        have HT := Lib.hid hta
        have HRE := Lib.hid hre
        clear hg1 hg2 hta hre
        have HA3 := Lib.hid (HA2.out.next hb3)
        have HD3 := Lib.hid (HD2.out.next hb3)
        have HBw3 := Lib.hid (bNext HBw2.out hb3)
        have HK13 := Lib.hid (HK12.out.below hb3 HK12.out.lt)
        have HK23 := Lib.hid (HK22.out.below hb3 HK22.out.lt)
        clear hb3 p0 p1 p2 p3 lp s0 s1 s2 s3 ls
        have p0 := HK13.out.cell 0
        have p1 := HK13.out.cell 1
        have p2 := HK13.out.cell 2
        have p3 := HK13.out.cell 3
        have lp := HK13.out.lt
        have s0 := HK23.out.cell 0
        have s1 := HK23.out.cell 1
        have s2 := HK23.out.cell 2
        have s3 := HK23.out.cell 3
        have ls := HK23.out.lt
        simp at p0 p1 p2 p3 s0 s1 s2 s3
        clear p0 p1 p2 p3 lp s0 s1 s2 s3 ls
        go_upto_region 12 with fail
        obtain ⟨w4, hw4⟩ : ∃ X', Hid (X' = w3.alloc (.cells #[.int .i64 t'.kind, .int .i64 t'.n, .string t'.name, .slice A' t'.args.length c'] 47)) := ⟨_, rfl⟩
        obtain ⟨r3, hr3⟩ : ∃ q, Hid (q = w3.heap.size) := ⟨_, rfl⟩
        have hb4 : Below w3.heap.size w3 w4 := by rw [hw4.out]; exact bAlloc _ _
        have hk3 : Blk w4 r3 47 #[.int .i64 t'.kind, .int .i64 t'.n, .string t'.name, .slice A' t'.args.length c'] := by rw [hw4.out, hr3.out]; exact Blk.new _ _ _
        rw [← hw4.out, ← hr3.out]
        have HT4 := Lib.hid (HT.out.next hb4)
        have HK3 := Lib.hid hk3
        have u0 := hk3.cell 0
        have u1 := hk3.cell 1
        have u2 := hk3.cell 2
        have u3 := hk3.cell 3
        have lu := hk3.lt
        simp at u0 u1 u2 u3
        clear hw4 hk3
        have HA4 := Lib.hid (HA3.out.next hb4)
        have HD4 := Lib.hid (HD3.out.next hb4)
        have HBw4 := Lib.hid (bNext HBw3.out hb4)
        have HK14 := Lib.hid (HK13.out.below hb4 HK13.out.lt)
        have HK24 := Lib.hid (HK23.out.below hb4 HK23.out.lt)
        clear hb4
        have p0 := HK14.out.cell 0
        have p1 := HK14.out.cell 1
        have p2 := HK14.out.cell 2
        have p3 := HK14.out.cell 3
        have lp := HK14.out.lt
        have s0 := HK24.out.cell 0
        have s1 := HK24.out.cell 1
        have s2 := HK24.out.cell 2
        have s3 := HK24.out.cell 3
        have ls := HK24.out.lt
        simp at p0 p1 p2 p3 s0 s1 s2 s3
        by_cases her : er = 0
        rotate_left
        · have herb : (er != 0) = true := by simp [her]
          clear her
          go_wp2_with fail
          go_ret
          exact ⟨rfl, HBw4.out⟩
        have herb : (er != 0) = false := by simp [her]
        have HRN := Lib.hid (HRE.out her)
        clear her
        go_wp2_with fail
        refine (valid03_any a Aa ca w4 HA4.out).mono ?_
        rintro e w5 ⟨rfl, hb5⟩
        have HT5 := Lib.hid (HT4.out.next hb5)
        have hk3 := HK3.out.below hb5 HK3.out.lt
        clear u0 u1 u2 u3 lu
        have u0 := hk3.cell 0
        have u1 := hk3.cell 1
        have u2 := hk3.cell 2
        have u3 := hk3.cell 3
        have lu := hk3.lt
        simp at u0 u1 u2 u3
        clear hk3
        have HA5 := Lib.hid (HA4.out.next hb5)
        have HD5 := Lib.hid (HD4.out.next hb5)
        have HBw5 := Lib.hid (bNext HBw4.out hb5)
        have HK15 := Lib.hid (HK14.out.below hb5 HK14.out.lt)
        have HK25 := Lib.hid (HK24.out.below hb5 HK24.out.lt)
        clear hb5 p0 p1 p2 p3 lp s0 s1 s2 s3 ls
        have p0 := HK15.out.cell 0
        have p1 := HK15.out.cell 1
        have p2 := HK15.out.cell 2
        have p3 := HK15.out.cell 3
        have lp := HK15.out.lt
        have s0 := HK25.out.cell 0
        have s1 := HK25.out.cell 1
        have s2 := HK25.out.cell 2
        have s3 := HK25.out.cell 3
        have ls := HK25.out.lt
        simp at p0 p1 p2 p3 s0 s1 s2 s3
        cases hva : validT a
        · go_wp2_with fail
          go_ret
          exact ⟨rfl, HBw5.out⟩
        have HVA := Lib.hid hva
        clear hva
        go_wp2_with fail
        refine (unify_any a t' Aa ca A' c' w5 HA5.out HT5.out).mono ?_
        rintro e w6 ⟨⟨A6, n6, c6, er2, rfl, hsf⟩, hb6⟩
        have HSF := Lib.hid hsf
        clear hsf u0 u1 u2 u3 lu
        have HA6 := Lib.hid (HA5.out.next hb6)
        have HD6 := Lib.hid (HD5.out.next hb6)
        have HBw6 := Lib.hid (bNext HBw5.out hb6)
        have HK16 := Lib.hid (HK15.out.below hb6 HK15.out.lt)
        have HK26 := Lib.hid (HK25.out.below hb6 HK25.out.lt)
        clear hb6 p0 p1 p2 p3 lp s0 s1 s2 s3 ls
        have p0 := HK16.out.cell 0
        have p1 := HK16.out.cell 1
        have p2 := HK16.out.cell 2
        have p3 := HK16.out.cell 3
        have lp := HK16.out.lt
        have s0 := HK26.out.cell 0
        have s1 := HK26.out.cell 1
        have s2 := HK26.out.cell 2
        have s3 := HK26.out.cell 3
        have ls := HK26.out.lt
        simp at p0 p1 p2 p3 s0 s1 s2 s3
        by_cases her2 : er2 = 0
        rotate_left
        · have herb2 : (er2 != 0) = true := by simp [her2]
          clear her2
          go_wp2_with fail
          go_ret
          exact ⟨rfl, HBw6.out⟩
        have herb2 : (er2 != 0) = false := by simp [her2]
        have HM := Lib.hid (keys_match HVA.out HRN.out.1 HRN.out.2 (HSF.out her2))
        clear her2
        go_wp2_with fail
        refine (keyP_any a Aa ca w6 HA6.out).mono ?_
        rintro e w7 ⟨rfl, hb7⟩
        have HA7 := Lib.hid (HA6.out.next hb7)
        have HD7 := Lib.hid (HD6.out.next hb7)
        have HBw7 := Lib.hid (bNext HBw6.out hb7)
        have HK17 := Lib.hid (HK16.out.below hb7 HK16.out.lt)
        have HK27 := Lib.hid (HK26.out.below hb7 HK26.out.lt)
        clear hb7 p0 p1 p2 p3 lp s0 s1 s2 s3 ls
        have p0 := HK17.out.cell 0
        have p1 := HK17.out.cell 1
        have p2 := HK17.out.cell 2
        have p3 := HK17.out.cell 3
        have lp := HK17.out.lt
        have s0 := HK27.out.cell 0
        have s1 := HK27.out.cell 1
        have s2 := HK27.out.cell 2
        have s3 := HK27.out.cell 3
        have ls := HK27.out.lt
        simp at p0 p1 p2 p3 s0 s1 s2 s3
        obtain ⟨kv, hkv⟩ : ∃ kv, Hid (keyT a = kv) := ⟨_, rfl⟩
        obtain ⟨kw, hkw⟩ : ∃ kw, Hid (keyT b = kw) := ⟨_, rfl⟩
        rw [hkv.out]
        have HOK := Lib.hid (show okK kv = true by rw [← hkv.out]; exact okK_key a)
        have HOW := Lib.hid (show okK kw = true by rw [← hkw.out]; exact okK_key b)
        have HM2 := Lib.hid (show matK kv kw = true by rw [← hkv.out, ← hkw.out]; exact HM.out)
        obtain ⟨w8, hw8⟩ : ∃ X', Hid (X' = w7.alloc (.cells #[.int .i64 kv.kind, .int .i64 kv.n, .string kv.name, .int .i64 kv.ar] 35)) := ⟨_, rfl⟩
        obtain ⟨g8, hg8⟩ : ∃ q, Hid (q = w7.heap.size) := ⟨_, rfl⟩
        have hb8 : Below w7.heap.size w7 w8 := by rw [hw8.out]; exact bAlloc _ _
        have hk8 : Blk w8 g8 35 #[.int .i64 kv.kind, .int .i64 kv.n, .string kv.name, .int .i64 kv.ar] := by rw [hw8.out, hg8.out]; exact Blk.new _ _ _
        have HKA := Lib.hid (keys_blk [kv] hk8 rfl (by simp))
        clear hk8
        have HA8 := Lib.hid (HA7.out.next hb8)
        have HD8 := Lib.hid (HD7.out.next hb8)
        have HBw8 := Lib.hid (bNext HBw7.out hb8)
        have HK18 := Lib.hid (HK17.out.below hb8 HK17.out.lt)
        have HK28 := Lib.hid (HK27.out.below hb8 HK27.out.lt)
        clear hb8 p0 p1 p2 p3 lp s0 s1 s2 s3 ls
        have p0 := HK18.out.cell 0
        have p1 := HK18.out.cell 1
        have p2 := HK18.out.cell 2
        have p3 := HK18.out.cell 3
        have lp := HK18.out.lt
        have s0 := HK28.out.cell 0
        have s1 := HK28.out.cell 1
        have s2 := HK28.out.cell 2
        have s3 := HK28.out.cell 3
        have ls := HK28.out.lt
        simp at p0 p1 p2 p3 s0 s1 s2 s3
        go_wp2_with fail
        rw [← hw8.out, ← hg8.out]
        refine (Build_any (some ⟨g8, 0, none⟩) 1 1 [kv] w8 HKA.out).mono ?_
        rintro e w9 ⟨⟨v9, rfl, hv9⟩, hb9⟩
        have e1 : buildE [kv] = 0 := by unfold buildE; simp [HOK.out]
        have e2 : buildIx [kv] = ixOf [kv] := by unfold buildIx; simp [HOK.out]
        rw [e2] at hv9
        rw [e1]
        have hv0 := hv9
        obtain ⟨B0, d0, B1, d1, B2, d2, rfl, -, -, -⟩ := hv9
        have HV9 := Lib.hid hv0
        clear e1 e2 hv0 hw8 hg8
        have HA9 := Lib.hid (HA8.out.next hb9)
        have HD9 := Lib.hid (HD8.out.next hb9)
        have HBw9 := Lib.hid (bNext HBw8.out hb9)
        have HK19 := Lib.hid (HK18.out.below hb9 HK18.out.lt)
        have HK29 := Lib.hid (HK28.out.below hb9 HK28.out.lt)
        clear hb9 p0 p1 p2 p3 lp s0 s1 s2 s3 ls
        have p0 := HK19.out.cell 0
        have p1 := HK19.out.cell 1
        have p2 := HK19.out.cell 2
        have p3 := HK19.out.cell 3
        have lp := HK19.out.lt
        have s0 := HK29.out.cell 0
        have s1 := HK29.out.cell 1
        have s2 := HK29.out.cell 2
        have s3 := HK29.out.cell 3
        have ls := HK29.out.lt
        simp at p0 p1 p2 p3 s0 s1 s2 s3
        clear p0 p1 p2 p3 lp s0 s1 s2 s3 ls
        go_upto_region 18 with fail
        obtain ⟨w10, hw10⟩ : ∃ X', Hid (X' = w9.alloc (.cells #[.slice B0 (ixOf [kv]).all.length d0, .slice B1 (ixOf [kv]).rows.length d1, .slice B2 (ixOf [kv]).rest.length d2] 26)) := ⟨_, rfl⟩
        obtain ⟨g10, hg10⟩ : ∃ q, Hid (q = w9.heap.size) := ⟨_, rfl⟩
        have hb10 : Below w9.heap.size w9 w10 := by rw [hw10.out]; exact bAlloc _ _
        have hk10 : Blk w10 g10 26 #[.slice B0 (ixOf [kv]).all.length d0, .slice B1 (ixOf [kv]).rows.length d1, .slice B2 (ixOf [kv]).rest.length d2] := by rw [hw10.out, hg10.out]; exact Blk.new _ _ _
        rw [← hw10.out, ← hg10.out]
        have HV10 := Lib.hid ((HV9.out.below hb10).more hb10.size)
        have HK10 := Lib.hid hk10
        clear hw10 hk10
        have HA10 := Lib.hid (HA9.out.next hb10)
        have HD10 := Lib.hid (HD9.out.next hb10)
        have HBw10 := Lib.hid (bNext HBw9.out hb10)
        have HK110 := Lib.hid (HK19.out.below hb10 HK19.out.lt)
        have HK210 := Lib.hid (HK29.out.below hb10 HK29.out.lt)
        clear hb10
        have p0 := HK110.out.cell 0
        have p1 := HK110.out.cell 1
        have p2 := HK110.out.cell 2
        have p3 := HK110.out.cell 3
        have lp := HK110.out.lt
        have s0 := HK210.out.cell 0
        have s1 := HK210.out.cell 1
        have s2 := HK210.out.cell 2
        have s3 := HK210.out.cell 3
        have ls := HK210.out.lt
        simp at p0 p1 p2 p3 s0 s1 s2 s3
        clear p0 p1 p2 p3 lp s0 s1 s2 s3 ls
        obtain ⟨D, hD⟩ : ∃ X', Hid (X' = w10.drew) := ⟨_, rfl⟩
        have hb11 : Below w10.heap.size w10 D := by rw [hD.out]; exact bDrewN (Below.refl _ _) 1
        have hS0 : (fun w' => Blk w' r2 47 #[.int .i64 b.kind, .int .i64 b.n, .string b.name, .slice Ab b.args.length cb] ∧ Blk w' g10 26 #[.slice B0 (ixOf [kv]).all.length d0, .slice B1 (ixOf [kv]).rows.length d1, .slice B2 (ixOf [kv]).rest.length d2]) D := ⟨HK210.out.below hb11 HK210.out.lt, HK10.out.below hb11 HK10.out.lt⟩
        have HVD := Lib.hid ((HV10.out.below hb11).more hb11.size)
        have HDD := Lib.hid (HD10.out.next hb11)
        have HBD0 := Lib.hid (bNext HBw10.out hb11)
        have HSEL := Lib.hid (show selIx (validIx (ixOf [kv])) (ixOf [kv]) kw = [0] by
          rw [valid_of_good ⟨[kv], by simp [HOK.out], by simp, rfl⟩, sel_ixOf (by simp [HOK.out]) HOW.out]
          show listTo [kv] kw 1 = [0]
          rw [listTo_yes (x := kv) rfl HM2.out, listTo_zero]
          rfl)
        have hkv2 := hkw.out
        refine wp_region_N (fun w' => Blk w' r2 47 #[.int .i64 b.kind, .int .i64 b.n, .string b.name, .slice Ab b.args.length cb] ∧ Blk w' g10 26 #[.slice B0 (ixOf [kv]).all.length d0, .slice B1 (ixOf [kv]).rows.length d1, .slice B2 (ixOf [kv]).rest.length d2]) (fun _ => true) (by kernel_rfl) ?_
        rw [← hD.out]
        clear hD hb11
        refine wpAnyN_take (i := 0) (v := ?v1) rfl (by kernel_rfl) (by kernel_rfl) (by kernel_rfl) (by kernel_rfl) (fun _ _ _ h => h) (Or.inl ⟨by rfl, ?hy1⟩) (by assumption) ?_
        case hy1 => intro w hSw; obtain ⟨b1, b2⟩ := hSw; have s0 := b1.cell 0; have s1 := b1.cell 1; have s2 := b1.cell 2; have s3 := b1.cell 3; have y0 := b2.cell 0; have y1 := b2.cell 1; have y2 := b2.cell 2; simp at s0 s1 s2 s3 y0 y1 y2; go_simp; try with_reducible rfl
        simp only [Act.put, List.getElem_toArray, List.getElem_cons_zero, List.setIfInBounds_toArray, List.set_cons_zero, List.set_cons_succ]
        refine wpAnyN_take (i := 1) (v := ?v2) rfl (by kernel_rfl) (by kernel_rfl) (by kernel_rfl) (by kernel_rfl) (fun _ _ _ h => h) (Or.inl ⟨by rfl, ?hy2⟩) (by assumption) ?_
        case hy2 => intro w hSw; obtain ⟨b1, b2⟩ := hSw; have s0 := b1.cell 0; have s1 := b1.cell 1; have s2 := b1.cell 2; have s3 := b1.cell 3; have y0 := b2.cell 0; have y1 := b2.cell 1; have y2 := b2.cell 2; simp at s0 s1 s2 s3 y0 y1 y2; go_simp; try with_reducible rfl
        simp only [Act.put, List.getElem_toArray, List.getElem_cons_zero, List.getElem_cons_succ, List.setIfInBounds_toArray, List.set_cons_zero, List.set_cons_succ]
        refine wpAnyN_take (i := 2) (v := ?v3) rfl (by kernel_rfl) (by kernel_rfl) (by kernel_rfl) (by kernel_rfl) (fun _ _ _ h => h) (Or.inl ⟨by rfl, ?hy3⟩) (by assumption) ?_
        case hy3 => intro w hSw; obtain ⟨b1, b2⟩ := hSw; have s0 := b1.cell 0; have s1 := b1.cell 1; have s2 := b1.cell 2; have s3 := b1.cell 3; have y0 := b2.cell 0; have y1 := b2.cell 1; have y2 := b2.cell 2; simp at s0 s1 s2 s3 y0 y1 y2; go_simp; try with_reducible rfl
        simp only [Act.put, List.getElem_toArray, List.getElem_cons_zero, List.getElem_cons_succ, List.setIfInBounds_toArray, List.set_cons_zero, List.set_cons_succ]
        refine wpAnyN_take (i := 3) (v := ?v4) rfl (by kernel_rfl) (by kernel_rfl) (by kernel_rfl) (by kernel_rfl) (fun _ _ _ h => h) (Or.inl ⟨by rfl, ?hy4⟩) (by assumption) ?_
        case hy4 => intro w hSw; obtain ⟨b1, b2⟩ := hSw; have s0 := b1.cell 0; have s1 := b1.cell 1; have s2 := b1.cell 2; have s3 := b1.cell 3; have y0 := b2.cell 0; have y1 := b2.cell 1; have y2 := b2.cell 2; simp at s0 s1 s2 s3 y0 y1 y2; go_simp; try with_reducible rfl
        simp only [Act.put, List.getElem_toArray, List.getElem_cons_zero, List.getElem_cons_succ, List.setIfInBounds_toArray, List.set_cons_zero, List.set_cons_succ]
        refine wpAnyN_take (i := 4) (v := ?v5) rfl (by kernel_rfl) (by kernel_rfl) (by kernel_rfl) (by kernel_rfl) (fun _ _ _ h => h) (Or.inl ⟨by rfl, ?hy5⟩) (by assumption) ?_
        case hy5 => intro w hSw; obtain ⟨b1, b2⟩ := hSw; have s0 := b1.cell 0; have s1 := b1.cell 1; have s2 := b1.cell 2; have s3 := b1.cell 3; have y0 := b2.cell 0; have y1 := b2.cell 1; have y2 := b2.cell 2; simp at s0 s1 s2 s3 y0 y1 y2; go_simp; try with_reducible rfl
        simp only [Act.put, List.getElem_toArray, List.getElem_cons_zero, List.getElem_cons_succ, List.setIfInBounds_toArray, List.set_cons_zero, List.set_cons_succ]
        refine wpAnyN_two (i := 5) (j := 7) (by kernel_rfl) rfl rfl (fun K hK => ?_) (fun K hK => ?_)
        · simp only [List.getElem_toArray, List.getElem_cons_zero, List.getElem_cons_succ]
          go_simp
          refine (keyP_any b Ab cb D HDD.out).mono ?_
          rintro e x1 ⟨rfl, hbx⟩
          rw [hkv2]
          have HVV_1 := Lib.hid ((HVD.out.below hbx).more hbx.size)
          have HDD_1 := Lib.hid (HDD.out.next hbx)
          have HBB_1 := Lib.hid (bNext HBD0.out hbx)
          have hS_1 : (fun w' => Blk w' r2 47 #[.int .i64 b.kind, .int .i64 b.n, .string b.name, .slice Ab b.args.length cb] ∧ Blk w' g10 26 #[.slice B0 (ixOf [kv]).all.length d0, .slice B1 (ixOf [kv]).rows.length d1, .slice B2 (ixOf [kv]).rest.length d2]) x1 := ⟨hS0.1.below hbx hS0.1.lt, hS0.2.below hbx hS0.2.lt⟩
          clear hbx
          refine hK _ _ (fun _ => hS_1) ?_
          (try simp only [Act.put, List.setIfInBounds_toArray, List.set_cons_zero, List.set_cons_succ])
          refine wpAnyN_two (i := 6) (j := 7) (by kernel_rfl) rfl rfl (fun K hK => ?_) (fun K hK => ?_)
          · simp only [List.getElem_toArray, List.getElem_cons_zero, List.getElem_cons_succ]
            go_simp
            refine (Select_any _ (ixOf [kv]) kw x1 HVV_1.out).mono ?_
            rintro e x2 ⟨⟨S1, m1, z1, rfl, hs1⟩, hbx⟩
            rw [HSEL.out] at hs1
            have HS_2 := Lib.hid hs1
            clear hs1
            have HVV_2 := Lib.hid ((HVV_1.out.below hbx).more hbx.size)
            have HDD_2 := Lib.hid (HDD_1.out.next hbx)
            have HBB_2 := Lib.hid (bNext HBB_1.out hbx)
            have hS_2 : (fun w' => Blk w' r2 47 #[.int .i64 b.kind, .int .i64 b.n, .string b.name, .slice Ab b.args.length cb] ∧ Blk w' g10 26 #[.slice B0 (ixOf [kv]).all.length d0, .slice B1 (ixOf [kv]).rows.length d1, .slice B2 (ixOf [kv]).rest.length d2]) x2 := ⟨hS_1.1.below hbx hS_1.1.lt, hS_1.2.below hbx hS_1.2.lt⟩
            clear hbx
            refine hK _ _ (fun _ => hS_2) ?_
            (try simp only [Act.put, List.setIfInBounds_toArray, List.set_cons_zero, List.set_cons_succ])
            refine wpAnyN_one (i := 7) (by kernel_rfl) rfl (fun K hK => ?_)
            simp only [List.getElem_toArray, List.getElem_cons_zero, List.getElem_cons_succ]
            go_simp
            obtain ⟨x3, hx3⟩ : ∃ X', Hid (X' = x2.alloc (.cells #[.int .i64 0] 3)) := ⟨_, rfl⟩
            have hbx : Below x2.heap.size x2 x3 := by rw [hx3.out]; exact bAlloc _ _
            have HN_3 := Lib.hid (show IntsAt x3 x3.heap.size (some ⟨x2.heap.size, 0, none⟩) 1 [0] by rw [hx3.out]; exact ints_new _ 0 rfl 3)
            rw [← hx3.out]
            clear hx3
            have HS_3 := Lib.hid ((HS_2.out.below hbx).more hbx.size)
            have HVV_3 := Lib.hid ((HVV_2.out.below hbx).more hbx.size)
            have HDD_3 := Lib.hid (HDD_2.out.next hbx)
            have HBB_3 := Lib.hid (bNext HBB_2.out hbx)
            have hS_3 : (fun w' => Blk w' r2 47 #[.int .i64 b.kind, .int .i64 b.n, .string b.name, .slice Ab b.args.length cb] ∧ Blk w' g10 26 #[.slice B0 (ixOf [kv]).all.length d0, .slice B1 (ixOf [kv]).rows.length d1, .slice B2 (ixOf [kv]).rest.length d2]) x3 := ⟨hS_2.1.below hbx hS_2.1.lt, hS_2.2.below hbx hS_2.2.lt⟩
            clear hbx
            refine hK _ _ (fun _ => hS_3) ?_
            (try simp only [Act.put, List.setIfInBounds_toArray, List.set_cons_zero, List.set_cons_succ])
            refine wpAnyN_one (i := 8) (by kernel_rfl) rfl (fun K hK => ?_)
            simp only [List.getElem_toArray, List.getElem_cons_zero, List.getElem_cons_succ]
            go_simp
            refine (same_any _ _ _ _ _ _ [0] [0] x3 HS_3.out HN_3.out).mono ?_
            rintro e x4 ⟨rfl, q5, e5⟩
            have hbx : Below x3.heap.size x3 x4 := by rw [e5]; exact bDrewN (Below.refl _ _) q5
            rw [show sameL [0] [0] = true from decide_eq_true rfl]
            clear e5
            have HS_4 := Lib.hid ((HS_3.out.below hbx).more hbx.size)
            have HN_4 := Lib.hid ((HN_3.out.below hbx).more hbx.size)
            have HVV_4 := Lib.hid ((HVV_3.out.below hbx).more hbx.size)
            have HDD_4 := Lib.hid (HDD_3.out.next hbx)
            have HBB_4 := Lib.hid (bNext HBB_3.out hbx)
            have hS_4 : (fun w' => Blk w' r2 47 #[.int .i64 b.kind, .int .i64 b.n, .string b.name, .slice Ab b.args.length cb] ∧ Blk w' g10 26 #[.slice B0 (ixOf [kv]).all.length d0, .slice B1 (ixOf [kv]).rows.length d1, .slice B2 (ixOf [kv]).rest.length d2]) x4 := ⟨hS_3.1.below hbx hS_3.1.lt, hS_3.2.below hbx hS_3.2.lt⟩
            clear hbx
            refine hK _ _ (fun _ => hS_4) ?_
            (try simp only [Act.put, List.setIfInBounds_toArray, List.set_cons_zero, List.set_cons_succ])
            refine wpAnyN_take (i := 9) (v := ?v6) rfl (by kernel_rfl) (by kernel_rfl) (by kernel_rfl) (by kernel_rfl) (fun _ _ _ h => h) (Or.inl ⟨by rfl, ?hy6⟩) (by assumption) ?_
            case hy6 => intro w hSw; obtain ⟨b1, b2⟩ := hSw; have s0 := b1.cell 0; have s1 := b1.cell 1; have s2 := b1.cell 2; have s3 := b1.cell 3; have y0 := b2.cell 0; have y1 := b2.cell 1; have y2 := b2.cell 2; simp at s0 s1 s2 s3 y0 y1 y2; go_simp; try with_reducible rfl
            simp only [Act.put, List.getElem_toArray, List.getElem_cons_zero, List.getElem_cons_succ, List.setIfInBounds_toArray, List.set_cons_zero, List.set_cons_succ]
            refine wpAnyN_take (i := 10) (v := ?v7) rfl (by kernel_rfl) (by kernel_rfl) (by kernel_rfl) (by kernel_rfl) (fun _ _ _ h => h) (Or.inl ⟨by rfl, ?hy7⟩) (by assumption) ?_
            case hy7 => intro w hSw; obtain ⟨b1, b2⟩ := hSw; have s0 := b1.cell 0; have s1 := b1.cell 1; have s2 := b1.cell 2; have s3 := b1.cell 3; have y0 := b2.cell 0; have y1 := b2.cell 1; have y2 := b2.cell 2; simp at s0 s1 s2 s3 y0 y1 y2; go_simp; try with_reducible rfl
            simp only [Act.put, List.getElem_toArray, List.getElem_cons_zero, List.getElem_cons_succ, List.setIfInBounds_toArray, List.set_cons_zero, List.set_cons_succ]
            refine wpAnyN_done (by kernel_rfl) ?_ _
            go_wp2_with fail
            go_ret
            exact ⟨rfl, HBB_4.out⟩
          · simp only [List.getElem_toArray, List.getElem_cons_zero, List.getElem_cons_succ]
            go_simp
            obtain ⟨x5, hx5⟩ : ∃ X', Hid (X' = x1.alloc (.cells #[.int .i64 0] 3)) := ⟨_, rfl⟩
            have hbx : Below x1.heap.size x1 x5 := by rw [hx5.out]; exact bAlloc _ _
            have HN_5 := Lib.hid (show IntsAt x5 x5.heap.size (some ⟨x1.heap.size, 0, none⟩) 1 [0] by rw [hx5.out]; exact ints_new _ 0 rfl 3)
            rw [← hx5.out]
            clear hx5
            have HVV_5 := Lib.hid ((HVV_1.out.below hbx).more hbx.size)
            have HDD_5 := Lib.hid (HDD_1.out.next hbx)
            have HBB_5 := Lib.hid (bNext HBB_1.out hbx)
            have hS_5 : (fun w' => Blk w' r2 47 #[.int .i64 b.kind, .int .i64 b.n, .string b.name, .slice Ab b.args.length cb] ∧ Blk w' g10 26 #[.slice B0 (ixOf [kv]).all.length d0, .slice B1 (ixOf [kv]).rows.length d1, .slice B2 (ixOf [kv]).rest.length d2]) x5 := ⟨hS_1.1.below hbx hS_1.1.lt, hS_1.2.below hbx hS_1.2.lt⟩
            clear hbx
            refine hK _ _ (fun _ => hS_5) ?_
            (try simp only [Act.put, List.setIfInBounds_toArray, List.set_cons_zero, List.set_cons_succ])
            refine wpAnyN_one (i := 6) (by kernel_rfl) rfl (fun K hK => ?_)
            simp only [List.getElem_toArray, List.getElem_cons_zero, List.getElem_cons_succ]
            go_simp
            refine (Select_any _ (ixOf [kv]) kw x5 HVV_5.out).mono ?_
            rintro e x6 ⟨⟨S1, m1, z1, rfl, hs1⟩, hbx⟩
            rw [HSEL.out] at hs1
            have HS_6 := Lib.hid hs1
            clear hs1
            have HN_6 := Lib.hid ((HN_5.out.below hbx).more hbx.size)
            have HVV_6 := Lib.hid ((HVV_5.out.below hbx).more hbx.size)
            have HDD_6 := Lib.hid (HDD_5.out.next hbx)
            have HBB_6 := Lib.hid (bNext HBB_5.out hbx)
            have hS_6 : (fun w' => Blk w' r2 47 #[.int .i64 b.kind, .int .i64 b.n, .string b.name, .slice Ab b.args.length cb] ∧ Blk w' g10 26 #[.slice B0 (ixOf [kv]).all.length d0, .slice B1 (ixOf [kv]).rows.length d1, .slice B2 (ixOf [kv]).rest.length d2]) x6 := ⟨hS_5.1.below hbx hS_5.1.lt, hS_5.2.below hbx hS_5.2.lt⟩
            clear hbx
            refine hK _ _ (fun _ => hS_6) ?_
            (try simp only [Act.put, List.setIfInBounds_toArray, List.set_cons_zero, List.set_cons_succ])
            refine wpAnyN_one (i := 8) (by kernel_rfl) rfl (fun K hK => ?_)
            simp only [List.getElem_toArray, List.getElem_cons_zero, List.getElem_cons_succ]
            go_simp
            refine (same_any _ _ _ _ _ _ [0] [0] x6 HS_6.out HN_6.out).mono ?_
            rintro e x7 ⟨rfl, q5, e5⟩
            have hbx : Below x6.heap.size x6 x7 := by rw [e5]; exact bDrewN (Below.refl _ _) q5
            rw [show sameL [0] [0] = true from decide_eq_true rfl]
            clear e5
            have HS_7 := Lib.hid ((HS_6.out.below hbx).more hbx.size)
            have HN_7 := Lib.hid ((HN_6.out.below hbx).more hbx.size)
            have HVV_7 := Lib.hid ((HVV_6.out.below hbx).more hbx.size)
            have HDD_7 := Lib.hid (HDD_6.out.next hbx)
            have HBB_7 := Lib.hid (bNext HBB_6.out hbx)
            have hS_7 : (fun w' => Blk w' r2 47 #[.int .i64 b.kind, .int .i64 b.n, .string b.name, .slice Ab b.args.length cb] ∧ Blk w' g10 26 #[.slice B0 (ixOf [kv]).all.length d0, .slice B1 (ixOf [kv]).rows.length d1, .slice B2 (ixOf [kv]).rest.length d2]) x7 := ⟨hS_6.1.below hbx hS_6.1.lt, hS_6.2.below hbx hS_6.2.lt⟩
            clear hbx
            refine hK _ _ (fun _ => hS_7) ?_
            (try simp only [Act.put, List.setIfInBounds_toArray, List.set_cons_zero, List.set_cons_succ])
            refine wpAnyN_take (i := 9) (v := ?v8) rfl (by kernel_rfl) (by kernel_rfl) (by kernel_rfl) (by kernel_rfl) (fun _ _ _ h => h) (Or.inl ⟨by rfl, ?hy8⟩) (by assumption) ?_
            case hy8 => intro w hSw; obtain ⟨b1, b2⟩ := hSw; have s0 := b1.cell 0; have s1 := b1.cell 1; have s2 := b1.cell 2; have s3 := b1.cell 3; have y0 := b2.cell 0; have y1 := b2.cell 1; have y2 := b2.cell 2; simp at s0 s1 s2 s3 y0 y1 y2; go_simp; try with_reducible rfl
            simp only [Act.put, List.getElem_toArray, List.getElem_cons_zero, List.getElem_cons_succ, List.setIfInBounds_toArray, List.set_cons_zero, List.set_cons_succ]
            refine wpAnyN_take (i := 10) (v := ?v9) rfl (by kernel_rfl) (by kernel_rfl) (by kernel_rfl) (by kernel_rfl) (fun _ _ _ h => h) (Or.inl ⟨by rfl, ?hy9⟩) (by assumption) ?_
            case hy9 => intro w hSw; obtain ⟨b1, b2⟩ := hSw; have s0 := b1.cell 0; have s1 := b1.cell 1; have s2 := b1.cell 2; have s3 := b1.cell 3; have y0 := b2.cell 0; have y1 := b2.cell 1; have y2 := b2.cell 2; simp at s0 s1 s2 s3 y0 y1 y2; go_simp; try with_reducible rfl
            simp only [Act.put, List.getElem_toArray, List.getElem_cons_zero, List.getElem_cons_succ, List.setIfInBounds_toArray, List.set_cons_zero, List.set_cons_succ]
            refine wpAnyN_done (by kernel_rfl) ?_ _
            go_wp2_with fail
            go_ret
            exact ⟨rfl, HBB_7.out⟩
        · simp only [List.getElem_toArray, List.getElem_cons_zero, List.getElem_cons_succ]
          go_simp
          obtain ⟨x8, hx8⟩ : ∃ X', Hid (X' = D.alloc (.cells #[.int .i64 0] 3)) := ⟨_, rfl⟩
          have hbx : Below D.heap.size D x8 := by rw [hx8.out]; exact bAlloc _ _
          have HN_8 := Lib.hid (show IntsAt x8 x8.heap.size (some ⟨D.heap.size, 0, none⟩) 1 [0] by rw [hx8.out]; exact ints_new _ 0 rfl 3)
          rw [← hx8.out]
          clear hx8
          have HVV_8 := Lib.hid ((HVD.out.below hbx).more hbx.size)
          have HDD_8 := Lib.hid (HDD.out.next hbx)
          have HBB_8 := Lib.hid (bNext HBD0.out hbx)
          have hS_8 : (fun w' => Blk w' r2 47 #[.int .i64 b.kind, .int .i64 b.n, .string b.name, .slice Ab b.args.length cb] ∧ Blk w' g10 26 #[.slice B0 (ixOf [kv]).all.length d0, .slice B1 (ixOf [kv]).rows.length d1, .slice B2 (ixOf [kv]).rest.length d2]) x8 := ⟨hS0.1.below hbx hS0.1.lt, hS0.2.below hbx hS0.2.lt⟩
          clear hbx
          refine hK _ _ (fun _ => hS_8) ?_
          (try simp only [Act.put, List.setIfInBounds_toArray, List.set_cons_zero, List.set_cons_succ])
          refine wpAnyN_one (i := 5) (by kernel_rfl) rfl (fun K hK => ?_)
          simp only [List.getElem_toArray, List.getElem_cons_zero, List.getElem_cons_succ]
          go_simp
          refine (keyP_any b Ab cb x8 HDD_8.out).mono ?_
          rintro e x9 ⟨rfl, hbx⟩
          rw [hkv2]
          have HN_9 := Lib.hid ((HN_8.out.below hbx).more hbx.size)
          have HVV_9 := Lib.hid ((HVV_8.out.below hbx).more hbx.size)
          have HDD_9 := Lib.hid (HDD_8.out.next hbx)
          have HBB_9 := Lib.hid (bNext HBB_8.out hbx)
          have hS_9 : (fun w' => Blk w' r2 47 #[.int .i64 b.kind, .int .i64 b.n, .string b.name, .slice Ab b.args.length cb] ∧ Blk w' g10 26 #[.slice B0 (ixOf [kv]).all.length d0, .slice B1 (ixOf [kv]).rows.length d1, .slice B2 (ixOf [kv]).rest.length d2]) x9 := ⟨hS_8.1.below hbx hS_8.1.lt, hS_8.2.below hbx hS_8.2.lt⟩
          clear hbx
          refine hK _ _ (fun _ => hS_9) ?_
          (try simp only [Act.put, List.setIfInBounds_toArray, List.set_cons_zero, List.set_cons_succ])
          refine wpAnyN_one (i := 6) (by kernel_rfl) rfl (fun K hK => ?_)
          simp only [List.getElem_toArray, List.getElem_cons_zero, List.getElem_cons_succ]
          go_simp
          refine (Select_any _ (ixOf [kv]) kw x9 HVV_9.out).mono ?_
          rintro e x10 ⟨⟨S1, m1, z1, rfl, hs1⟩, hbx⟩
          rw [HSEL.out] at hs1
          have HS_10 := Lib.hid hs1
          clear hs1
          have HN_10 := Lib.hid ((HN_9.out.below hbx).more hbx.size)
          have HVV_10 := Lib.hid ((HVV_9.out.below hbx).more hbx.size)
          have HDD_10 := Lib.hid (HDD_9.out.next hbx)
          have HBB_10 := Lib.hid (bNext HBB_9.out hbx)
          have hS_10 : (fun w' => Blk w' r2 47 #[.int .i64 b.kind, .int .i64 b.n, .string b.name, .slice Ab b.args.length cb] ∧ Blk w' g10 26 #[.slice B0 (ixOf [kv]).all.length d0, .slice B1 (ixOf [kv]).rows.length d1, .slice B2 (ixOf [kv]).rest.length d2]) x10 := ⟨hS_9.1.below hbx hS_9.1.lt, hS_9.2.below hbx hS_9.2.lt⟩
          clear hbx
          refine hK _ _ (fun _ => hS_10) ?_
          (try simp only [Act.put, List.setIfInBounds_toArray, List.set_cons_zero, List.set_cons_succ])
          refine wpAnyN_one (i := 8) (by kernel_rfl) rfl (fun K hK => ?_)
          simp only [List.getElem_toArray, List.getElem_cons_zero, List.getElem_cons_succ]
          go_simp
          refine (same_any _ _ _ _ _ _ [0] [0] x10 HS_10.out HN_10.out).mono ?_
          rintro e x11 ⟨rfl, q5, e5⟩
          have hbx : Below x10.heap.size x10 x11 := by rw [e5]; exact bDrewN (Below.refl _ _) q5
          rw [show sameL [0] [0] = true from decide_eq_true rfl]
          clear e5
          have HS_11 := Lib.hid ((HS_10.out.below hbx).more hbx.size)
          have HN_11 := Lib.hid ((HN_10.out.below hbx).more hbx.size)
          have HVV_11 := Lib.hid ((HVV_10.out.below hbx).more hbx.size)
          have HDD_11 := Lib.hid (HDD_10.out.next hbx)
          have HBB_11 := Lib.hid (bNext HBB_10.out hbx)
          have hS_11 : (fun w' => Blk w' r2 47 #[.int .i64 b.kind, .int .i64 b.n, .string b.name, .slice Ab b.args.length cb] ∧ Blk w' g10 26 #[.slice B0 (ixOf [kv]).all.length d0, .slice B1 (ixOf [kv]).rows.length d1, .slice B2 (ixOf [kv]).rest.length d2]) x11 := ⟨hS_10.1.below hbx hS_10.1.lt, hS_10.2.below hbx hS_10.2.lt⟩
          clear hbx
          refine hK _ _ (fun _ => hS_11) ?_
          (try simp only [Act.put, List.setIfInBounds_toArray, List.set_cons_zero, List.set_cons_succ])
          refine wpAnyN_take (i := 9) (v := ?v10) rfl (by kernel_rfl) (by kernel_rfl) (by kernel_rfl) (by kernel_rfl) (fun _ _ _ h => h) (Or.inl ⟨by rfl, ?hy10⟩) (by assumption) ?_
          case hy10 => intro w hSw; obtain ⟨b1, b2⟩ := hSw; have s0 := b1.cell 0; have s1 := b1.cell 1; have s2 := b1.cell 2; have s3 := b1.cell 3; have y0 := b2.cell 0; have y1 := b2.cell 1; have y2 := b2.cell 2; simp at s0 s1 s2 s3 y0 y1 y2; go_simp; try with_reducible rfl
          simp only [Act.put, List.getElem_toArray, List.getElem_cons_zero, List.getElem_cons_succ, List.setIfInBounds_toArray, List.set_cons_zero, List.set_cons_succ]
          refine wpAnyN_take (i := 10) (v := ?v11) rfl (by kernel_rfl) (by kernel_rfl) (by kernel_rfl) (by kernel_rfl) (fun _ _ _ h => h) (Or.inl ⟨by rfl, ?hy11⟩) (by assumption) ?_
          case hy11 => intro w hSw; obtain ⟨b1, b2⟩ := hSw; have s0 := b1.cell 0; have s1 := b1.cell 1; have s2 := b1.cell 2; have s3 := b1.cell 3; have y0 := b2.cell 0; have y1 := b2.cell 1; have y2 := b2.cell 2; simp at s0 s1 s2 s3 y0 y1 y2; go_simp; try with_reducible rfl
          simp only [Act.put, List.getElem_toArray, List.getElem_cons_zero, List.getElem_cons_succ, List.setIfInBounds_toArray, List.set_cons_zero, List.set_cons_succ]
          refine wpAnyN_done (by kernel_rfl) ?_ _
          go_wp2_with fail
          go_ret
          exact ⟨rfl, HBB_11.out⟩
end Go.Proofs.Ytpkpdjekoghkcaa
