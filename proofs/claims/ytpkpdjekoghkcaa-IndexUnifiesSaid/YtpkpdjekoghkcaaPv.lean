/-
  The plain law: an index is valid, for the index package and for the reference, exactly if it is the index of valid keys.
-/
import Derived.Test.YtpkpdjekoghkcaaWk
import Derived.Test.YtpkpdjekoghkcaaWm
namespace Go.Proofs.Ytpkpdjekoghkcaa

theorem mem_listTo {ks : List K} {k : K} {n : Nat} {i : Int} : i ∈ listTo ks k n ↔ ∃ (j : Nat) (y : K), i = (j : Int) ∧ j < n ∧ ks[j]? = some y ∧ matK y k = true := by
  unfold listTo
  simp only [List.mem_map, List.mem_filter, List.mem_range]
  constructor
  · rintro ⟨j, ⟨hj, h⟩, rfl⟩
    cases hy : ks[j]? with
    | none => rw [hy] at h; simp at h
    | some y => rw [hy] at h; exact ⟨j, y, rfl, hj, hy, by simpa using h⟩
  · rintro ⟨j, y, rfl, hj, hy, hm⟩
    exact ⟨j, ⟨hj, by rw [hy]; simpa using hm⟩, rfl⟩
theorem mem_restTo {ks : List K} {n : Nat} {i : Int} : i ∈ restTo ks n ↔ ∃ (j : Nat) (y : K), i = (j : Int) ∧ j < n ∧ ks[j]? = some y ∧ y.kind = 0 := by
  unfold restTo
  simp only [List.mem_map, List.mem_filter, List.mem_range]
  constructor
  · rintro ⟨j, ⟨hj, h⟩, rfl⟩
    cases hy : ks[j]? with
    | none => rw [hy] at h; simp at h
    | some y => rw [hy] at h; exact ⟨j, y, rfl, hj, hy, by simpa using h⟩
  · rintro ⟨j, y, rfl, hj, hy, hm⟩
    exact ⟨j, ⟨hj, by rw [hy]; simpa using hm⟩, rfl⟩
theorem okK_zero {k : K} (h : okK k = true) (h0 : k.kind = 0) : k = zeroK := by
  unfold okK at h
  rw [if_pos (by simpa using h0)] at h
  exact (K.eqv_iff k zeroK).1 h
theorem okK_zeroK : okK zeroK = true := by kernel_rfl
theorem ixOf_all (ks : List K) : (ixOf ks).all.length = ks.length := by
  show (listTo ks zeroK ks.length).length = _
  rw [← rangeTo_list ks zeroK rfl, rangeTo_len]

theorem fillL_ok {n : Nat} {k : K} (hk : okK k = true) : ∀ (l : List Int) (ks ks' : List K), ks.all okK = true → fillL n k l ks = some ks' → ks'.all okK = true ∧ ks'.length = ks.length
  | [], ks, ks', h, e => by
    have e' : ks = ks' := Option.some.inj e
    subst e'; exact ⟨h, rfl⟩
  | i :: t, ks, ks', h, e => by
    unfold fillL at e
    rw [List.foldl_cons] at e
    by_cases hi : 0 ≤ i ∧ i < n
    · have e2 : stepL n k (some ks) i = some (ks.set i.toNat k) := by simp only [stepL, Option.bind_some]; rw [if_pos hi]
      rw [e2] at e
      have hs : (ks.set i.toNat k).all okK = true := by
        rw [List.all_eq_true] at h ⊢
        intro x hx
        rcases List.mem_or_eq_of_mem_set hx with hx | rfl
        · exact h x hx
        · exact hk
      obtain ⟨h1, h2⟩ := fillL_ok hk t _ _ hs e
      exact ⟨h1, by rw [h2, List.length_set]⟩
    · have e2 : stepL n k (some ks) i = none := by simp only [stepL, Option.bind_some]; rw [if_neg hi]
      rw [e2, stepL_none] at e
      cases e
theorem fillR_ok {n : Nat} : ∀ (rows : List (K × List Int)) (ks ks' : List K), ks.all okK = true → fillR n rows ks = some ks' → ks'.all okK = true ∧ ks'.length = ks.length
  | [], ks, ks', h, e => by
    have e' : ks = ks' := Option.some.inj e
    subst e'; exact ⟨h, rfl⟩
  | r :: t, ks, ks', h, e => by
    unfold fillR at e
    rw [List.foldl_cons] at e
    cases hr : stepR n (some ks) r with
    | none => rw [hr, stepR_none] at e; cases e
    | some k2 =>
      rw [hr] at e
      have hr2 := hr
      simp only [stepR, Option.bind_some] at hr2
      split at hr2
      · rename_i hc
        simp at hc
        obtain ⟨a, b⟩ := fillL_ok hc.1 _ _ _ h hr2
        obtain ⟨c, d⟩ := fillR_ok t _ _ a e
        exact ⟨c, d.trans b⟩
      · cases hr2

/-- an index of valid keys, of which there are at most 500 -/
def goodIx (x : Ix) : Prop := ∃ ks : List K, ks.all okK = true ∧ ks.length ≤ 500 ∧ x = ixOf ks

theorem rep_ok (n : Nat) : (List.replicate n zeroK).all okK = true := by
  rw [List.all_eq_true]; intro x hx; rw [List.eq_of_mem_replicate hx]; exact okK_zeroK
theorem good_of_valid {x : Ix} (h : validIx x = true) : goodIx x := by
  unfold validIx at h
  split at h
  · cases h
  · rename_i hg
    simp at hg
    split at h
    · rename_i ks hks
      cases hr : fillR x.all.length x.rows (List.replicate x.all.length zeroK) with
      | none => rw [hr] at hks; cases hks
      | some k1 =>
        rw [hr, Option.bind_some] at hks
        obtain ⟨a, b⟩ := fillR_ok _ _ _ (rep_ok _) hr
        obtain ⟨c, d⟩ := fillL_ok okK_zeroK _ _ _ a hks
        exact ⟨ks, c, by rw [d, b, List.length_replicate]; omega, of_decide_eq_true h⟩
    · cases h
theorem foldK_ok {c : Int} : ∀ (rows : List (K × List Int)) (k : K), okK k = true → (∀ r ∈ rows, okK r.1 = true) → okK (rows.foldl (fun k r => if k.kind == 0 && hasL r.2 c then r.1 else k) k) = true
  | [], _, h, _ => h
  | r :: t, k, h, hr => by
    rw [List.foldl_cons]
    refine foldK_ok t _ ?_ (fun r h => hr r (List.mem_cons_of_mem _ h))
    split
    · exact hr r List.mem_cons_self
    · exact h
theorem good_of_ref {x : Ix} (h : refValidIx x = true) : goodIx x := by
  unfold refValidIx at h
  split at h
  · cases h
  · rename_i hg
    simp at hg
    split at h
    · rename_i ho
      refine ⟨kt x x.all.length, ?_, by rw [kt_len]; omega, of_decide_eq_true h⟩
      rw [List.all_eq_true]
      intro k hk
      simp only [kt, List.mem_map, List.mem_range] at hk
      obtain ⟨c, hc, rfl⟩ := hk
      rw [if_pos hc]
      unfold refKey
      split
      · exact okK_zeroK
      · refine foldK_ok _ _ okK_zeroK fun r hr => ?_
        have := List.all_eq_true.1 ho r hr
        simp [rowOk] at this
        exact this.2
    · cases h

/-- what entering a key for a list of clauses leaves -/
theorem fillL_at {n : Nat} {k : K} : ∀ (l : List Int) (ks : List K), (∀ i ∈ l, 0 ≤ i ∧ i < n) → ks.length = n → ∃ ks', fillL n k l ks = some ks' ∧ ks'.length = n ∧ ∀ i : Nat, i < n → ks'[i]? = if (i : Int) ∈ l then some k else ks[i]?
  | [], ks, _, hl => ⟨ks, rfl, hl, fun i _ => by simp⟩
  | i :: t, ks, h, hl => by
    obtain ⟨h0, h1⟩ := h i List.mem_cons_self
    obtain ⟨ks', e, hl', ha⟩ := fillL_at t (ks.set i.toNat k) (fun j hj => h j (List.mem_cons_of_mem _ hj)) (by rw [List.length_set]; exact hl)
    refine ⟨ks', ?_, hl', fun j hj => ?_⟩
    · unfold fillL at e ⊢
      rw [List.foldl_cons, ← e]
      congr 1
      simp only [stepL, Option.bind_some]; rw [if_pos ⟨h0, h1⟩]
    · rw [ha j hj]
      by_cases hm : (j : Int) ∈ t
      · rw [if_pos hm, if_pos (List.mem_cons_of_mem _ hm)]
      · rw [if_neg hm]
        by_cases hij : (j : Int) = i
        · rw [if_pos (by rw [hij]; exact List.mem_cons_self)]
          subst hij
          simp only [Int.toNat_natCast]
          rw [List.getElem?_set_self (by omega)]
        · rw [if_neg (by simp [hij, hm]), List.getElem?_set_ne (by omega)]
theorem valid_of_good {x : Ix} (h : goodIx x) : validIx x = true := by
  obtain ⟨ks, hok, hn, rfl⟩ := h
  have hall := ixOf_all ks
  have hrows : (ixOf ks).rows.length = (nubTo ks ks.length).length := by simp [ixOf]
  have hrl := nubTo_len ks ks.length
  have hrest : (ixOf ks).rest.length ≤ ks.length := restTo_len ks ks.length
  have hnk : ∀ y ∈ nubTo ks ks.length, y.kind ≠ 0 ∧ okK y = true := fun y hy => by
    obtain ⟨h0, hm⟩ := (nubTo_mem ks y _).1 hy
    exact ⟨h0, List.all_eq_true.1 hok y (List.mem_of_mem_take hm)⟩
  -- what the rows leave
  have key : ∀ (L : List K) (cur : List K) (D : List K), (∀ y ∈ L, y.kind ≠ 0 ∧ okK y = true) → cur.length = ks.length → (∀ (i : Nat) (y : K), ks[i]? = some y → y.kind ≠ 0 → y ∈ D → cur[i]? = some y) →
      ∃ k1, fillR ks.length (L.map fun y => (y, listTo ks y ks.length)) cur = some k1 ∧ k1.length = ks.length ∧ ∀ (i : Nat) (y : K), ks[i]? = some y → y.kind ≠ 0 → (y ∈ D ∨ y ∈ L) → k1[i]? = some y := by
    intro L
    induction L with
    | nil => intro cur D _ hl hc; exact ⟨cur, rfl, hl, fun i y hy h0 hm => hc i y hy h0 (by simpa using hm)⟩
    | cons z t ih =>
      intro cur D hL hl hc
      obtain ⟨hz0, hzok⟩ := hL z List.mem_cons_self
      obtain ⟨c2, e2, hl2, ha2⟩ := fillL_at (n := ks.length) (k := z) (listTo ks z ks.length) cur (fun i hi => by
        obtain ⟨j, y, rfl, hj, -, -⟩ := mem_listTo.1 hi
        omega) hl
      obtain ⟨k1, e1, hl1, ha1⟩ := ih c2 (z :: D) (fun y hy => hL y (List.mem_cons_of_mem _ hy)) hl2 (fun i y hy h0 hm => by
        have hi : i < ks.length := (List.getElem?_eq_some_iff.1 hy).1
        rw [ha2 i hi]
        by_cases hyz : y = z
        · subst hyz
          rw [if_pos (mem_listTo.2 ⟨i, y, rfl, hi, hy, matK_self⟩)]
        · rw [if_neg, hc i y hy h0 (by simpa [hyz] using hm)]
          intro hmem
          obtain ⟨j, y', e, hj, hy', hmat⟩ := mem_listTo.1 hmem
          have : j = i := by omega
          subst this
          rw [hy] at hy'
          obtain rfl := Option.some.inj hy'
          rw [matK_other (by simpa using h0) (by simpa using hz0) (fun e => hyz e.symm)] at hmat
          cases hmat)
      refine ⟨k1, ?_, hl1, fun i y hy h0 hm => ha1 i y hy h0 (by simp at hm ⊢; rcases hm with h | h | h <;> simp [h])⟩
      unfold fillR at e1 ⊢
      rw [List.map_cons, List.foldl_cons, ← e1]
      congr 1
      simp only [stepR, Option.bind_some]
      rw [if_pos (by simp [hzok]; exact listTo_len ks z ks.length), e2]
  obtain ⟨k1, e1, hl1, ha1⟩ := key (nubTo ks ks.length) (List.replicate ks.length zeroK) [] hnk (by simp) (fun i y _ _ hm => by simp at hm)
  obtain ⟨k2, e2, hl2, ha2⟩ := fillL_at (n := ks.length) (k := zeroK) (restTo ks ks.length) k1 (fun i hi => by
    obtain ⟨j, y, rfl, hj, -, -⟩ := mem_restTo.1 hi
    omega) hl1
  have hks : k2 = ks := by
    apply List.ext_getElem?
    intro i
    by_cases hi : i < ks.length
    · obtain ⟨y, hy⟩ : ∃ y, ks[i]? = some y := ⟨_, List.getElem?_eq_getElem hi⟩
      rw [ha2 i hi, hy]
      by_cases h0 : y.kind = 0
      · rw [if_pos (mem_restTo.2 ⟨i, y, rfl, hi, hy, h0⟩), okK_zero (List.all_eq_true.1 hok y (List.mem_of_getElem? hy)) h0]
      · rw [if_neg, ha1 i y hy h0 (.inr ((nubTo_mem ks y _).2 ⟨h0, by rw [List.take_length]; exact List.mem_of_getElem? hy⟩))]
        intro hm
        obtain ⟨j, y', e, hj, hy', hk⟩ := mem_restTo.1 hm
        have : j = i := by omega
        subst this
        rw [hy] at hy'
        obtain rfl := Option.some.inj hy'
        exact h0 hk
    · rw [List.getElem?_eq_none (by omega), List.getElem?_eq_none (by omega)]
  have hg : ¬ (500 < (ixOf ks).all.length ∨ (ixOf ks).all.length < (ixOf ks).rows.length ∨ (ixOf ks).all.length < (ixOf ks).rest.length) := by rw [hall, hrows]; omega
  have := validIx_same (x := ixOf ks) (ks := k1) (ks' := k2) hg (by rw [hall]; exact e1) (by rw [hall]; exact e2)
  rw [this, hks]
  exact decide_eq_true rfl
theorem foldK_find {ks : List K} {i : Nat} {y : K} (hy : ks[i]? = some y) (h0 : y.kind ≠ 0) : ∀ L : List K, (∀ z ∈ L, z.kind ≠ 0) → y ∈ L → (L.map fun z => (z, listTo ks z ks.length)).foldl (fun k r => if k.kind == 0 && hasL r.2 (i : Int) then r.1 else k) zeroK = y
  | [], _, hm => by simp at hm
  | z :: t, hL, hm => by
    have hi : i < ks.length := (List.getElem?_eq_some_iff.1 hy).1
    have hz := hL z List.mem_cons_self
    rw [List.map_cons, List.foldl_cons]
    by_cases hyz : y = z
    · subst hyz
      have hh : hasL (listTo ks y ks.length) (i : Int) = true := by
        unfold hasL; rw [List.contains_iff_mem]; exact mem_listTo.2 ⟨i, y, rfl, hi, hy, matK_self⟩
      simp only [hh, Bool.and_true]
      rw [if_pos (show (zeroK.kind == 0) = true from rfl), foldl_stay _ _ _ (by simpa using h0)]
    · have hh : hasL (listTo ks z ks.length) (i : Int) = false := by
        cases hc : hasL (listTo ks z ks.length) (i : Int)
        · rfl
        · unfold hasL at hc
          rw [List.contains_iff_mem] at hc
          obtain ⟨j, y', e, hj, hy', hmat⟩ := mem_listTo.1 hc
          have : j = i := by omega
          subst this
          rw [hy] at hy'
          obtain rfl := Option.some.inj hy'
          rw [matK_other (by simpa using h0) (by simpa using hz) (fun e => hyz e.symm)] at hmat
          cases hmat
      simp only [hh, Bool.and_false]
      exact foldK_find hy h0 t (fun z hz => hL z (List.mem_cons_of_mem _ hz)) (by simpa [hyz] using hm)
theorem ref_of_good {x : Ix} (h : goodIx x) : refValidIx x = true := by
  obtain ⟨ks, hok, hn, rfl⟩ := h
  have hall := ixOf_all ks
  have hrows : (ixOf ks).rows.length = (nubTo ks ks.length).length := by simp [ixOf]
  have hrl := nubTo_len ks ks.length
  have hrest : (ixOf ks).rest.length ≤ ks.length := restTo_len ks ks.length
  have hnk : ∀ y ∈ nubTo ks ks.length, y.kind ≠ 0 ∧ okK y = true := fun y hy => by
    obtain ⟨h0, hm⟩ := (nubTo_mem ks y _).1 hy
    exact ⟨h0, List.all_eq_true.1 hok y (List.mem_of_mem_take hm)⟩
  rw [refValid_same (by rw [hall, hrows]; omega)]
  · have hks : kt (ixOf ks) (ixOf ks).all.length = ks := by
      rw [hall]
      apply List.ext_getElem?
      intro i
      by_cases hi : i < ks.length
      · obtain ⟨y, hy⟩ : ∃ y, ks[i]? = some y := ⟨_, List.getElem?_eq_getElem hi⟩
        rw [hy]
        unfold kt
        rw [hall, List.getElem?_map, List.getElem?_range hi, Option.map_some, if_pos hi]
        congr 1
        unfold refKey
        by_cases h0 : y.kind = 0
        · rw [if_pos, okK_zero (List.all_eq_true.1 hok y (List.mem_of_getElem? hy)) h0]
          unfold hasL; rw [List.contains_iff_mem]; exact mem_restTo.2 ⟨i, y, rfl, hi, hy, h0⟩
        · rw [if_neg]
          · exact foldK_find hy h0 _ (fun z hz => (hnk z hz).1) ((nubTo_mem ks y _).2 ⟨h0, by rw [List.take_length]; exact List.mem_of_getElem? hy⟩)
          · unfold hasL; rw [List.contains_iff_mem]
            intro hm
            obtain ⟨j, y', e, hj, hy', hk⟩ := mem_restTo.1 hm
            have : j = i := by omega
            subst this
            rw [hy] at hy'
            obtain rfl := Option.some.inj hy'
            exact h0 hk
      · rw [List.getElem?_eq_none (by rw [kt_len, hall]; omega), List.getElem?_eq_none (by omega)]
    rw [hks]
    exact decide_eq_true rfl
  · rw [List.all_eq_true]
    intro r hr
    simp only [ixOf, List.mem_map] at hr
    obtain ⟨y, hy, rfl⟩ := hr
    rw [hall]
    simp [rowOk, (hnk y hy).2]
    exact listTo_len ks y ks.length
theorem valid_iff (x : Ix) : refValidIx x = validIx x := by
  rw [Bool.eq_iff_iff]
  exact ⟨fun h => valid_of_good (good_of_ref h), fun h => ref_of_good (good_of_valid h)⟩
end Go.Proofs.Ytpkpdjekoghkcaa
