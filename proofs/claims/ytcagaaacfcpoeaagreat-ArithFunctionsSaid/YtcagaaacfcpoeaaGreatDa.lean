/-
  Plain: canonical terms; terms without variables; terms in which a variable has been replaced.
-/
import Derived.Test.YtcagaaacfcpoeaaGreatCk
import Derived.Test.YtcagaaacfcpoeaaGreatCd
namespace Go.Proofs.YtcagaaacfcpoeaaGreat
open Go.RowKit

theorem cntgo_mem {l : List Tm} {x : Tm} (h : x ∈ l) : cnt x ≤ cnt.go l := by
  obtain ⟨i, hi⟩ := List.getElem?_of_mem h
  exact cntgo_at hi
theorem Tm.ind {P : Tm → Prop} (h : ∀ k n s a, (∀ x ∈ a, P x) → P (.mk k n s a)) : ∀ t, P t := by
  have key : ∀ N t, cnt t < N → P t := by
    intro N
    induction N with
    | zero => intro t h; omega
    | succ N ih =>
      intro t ht
      obtain ⟨k, n, s, a⟩ := t
      refine h k n s a fun x hx => ih x ?_
      have h1 := cnt_eq (.mk k n s a)
      have h2 := cntgo_mem hx
      simp only [Tm.args] at h1
      omega
  exact fun t => key _ t (Nat.lt_succ_self _)
theorem okT_mk (k n : Int) (s : ByteArray) (a : List Tm) : okT (.mk k n s a) = (nodeB k n s a.length && okT.go a) := by rw [okT]
theorem okT_go_all (l : List Tm) : okT.go l = true ↔ ∀ x ∈ l, okT x = true := by
  induction l with
  | nil => simp [okT.go]
  | cons x r ih => simp [okT.go, ih]
theorem rngT_mk (k n : Int) (s : ByteArray) (a : List Tm) : rngT (.mk k n s a) = (decide (inR n) && rngT.go a) := by rw [rngT_eq]; rfl
theorem rngT_go_all (l : List Tm) : rngT.go l = true ↔ ∀ x ∈ l, rngT x = true := by
  induction l with
  | nil => simp [rngT.go]
  | cons x r ih => simp [rngT.go, ih]
theorem node_var {n : Int} {s : ByteArray} {m : Nat} : nodeB 0 n s m = true ↔ 0 ≤ n ∧ n ≤ 1099511627776 ∧ s = { data := #[] } ∧ m = 0 := by
  unfold nodeB
  constructor
  · intro h
    simp at h
    exact ⟨h.1.1.1, h.1.1.2, bytes_inj (by simpa using h.1.2), h.2⟩
  · rintro ⟨h1, h2, rfl, rfl⟩
    simp [h1, h2]
theorem node_no {k n n' : Int} {s : ByteArray} {m : Nat} (hk : k ≠ 0) (h : k = 1 ∨ n' = n) : nodeB k n' s m = nodeB k n s m := by
  unfold nodeB
  rcases h with h | h
  · subst h; simp
  · subst h; rfl

/-- the first numbers -/
def idl : Nat → List Int
  | 0 => []
  | n + 1 => idl n ++ [(n : Int)]
theorem idl_len (n : Nat) : (idl n).length = n := by
  induction n with
  | zero => rfl
  | succ n ih => simp [idl, ih]
theorem idl_at (n i : Nat) (h : i < n) : (idl n)[i]? = some (i : Int) := by
  induction n with
  | zero => omega
  | succ n ih =>
    rw [idl]
    by_cases hi : i < n
    · rw [List.getElem?_append_left (by rw [idl_len]; exact hi)]; exact ih hi
    · obtain rfl : i = n := by omega
      rw [List.getElem?_append_right (by rw [idl_len]; omega), idl_len]
      simp
theorem posI_idl {n i : Nat} (h : i < n) : posI (idl n) (i : Int) = i :=
  posI_yes (idl_at n i h) rfl (fun j z hj hz => by rw [idl_at n j (by omega)] at hz; injection hz with hz; omega)
theorem posI_idl_no {n i : Nat} (h : n ≤ i) : posI (idl n) (i : Int) = -1 :=
  posI_no (fun j z hz => by
    have hj : j < n := by
      rcases Nat.lt_or_ge j n with h1 | h1
      · exact h1
      · rw [List.getElem?_eq_none (by rw [idl_len]; exact h1)] at hz; cases hz
    rw [idl_at n j hj] at hz; injection hz with hz; omega)
theorem posI_app {l : List Int} {x : Int} (m : List Int) (h : 0 ≤ posI l x) : posI (l ++ m) x = posI l x := by
  unfold posI at h ⊢
  rw [List.findIdx?_append]
  cases hf : l.findIdx? (· == x) with
  | none => rw [hf] at h; simp at h
  | some k => simp
theorem posI_snoc {l : List Int} {x : Int} (m : List Int) (h : posI l x < 0) : posI (l ++ [x] ++ m) x = l.length := by
  rw [posI_app m (by rw [posI_new h]; omega), posI_new h]
theorem mapT_mk (f : Int → Int → Int) (k n : Int) (s : ByteArray) (a : List Tm) : mapT f (.mk k n s a) = .mk k (f k n) s (a.map (mapT f)) := mapT_eq f _
theorem varsT_mk (k n : Int) (s : ByteArray) (a : List Tm) (l : List Int) : varsT (.mk k n s a) l = varsT.go a (vars1 (.mk k n s a) l) := rfl
theorem varsT_ext (t : Tm) (l : List Int) : ∃ m, varsT t l = l ++ m := varsT_le _ t l (Nat.lt_succ_self _)
theorem varsT_go_ext (a : List Tm) : ∀ l : List Int, ∃ m, varsT.go a l = l ++ m := by
  induction a with
  | nil => exact fun l => ⟨[], by simp [varsT.go]⟩
  | cons x r ih =>
    intro l
    obtain ⟨m1, h1⟩ := varsT_ext x l
    obtain ⟨m2, h2⟩ := ih (varsT x l)
    exact ⟨m1 ++ m2, by simp only [varsT.go]; rw [h2, h1, List.append_assoc]⟩
theorem vars1_pos {t : Tm} (l : List Int) (h : (t.kind == 0) = true) : 0 ≤ posI (vars1 t l) t.n := by
  unfold vars1
  by_cases hp : posI l t.n < 0
  · rw [if_pos ⟨h, hp⟩, posI_new hp]; omega
  · rw [if_neg (by simp [hp])]; omega
theorem vars1_pos0 (n : Int) (s : ByteArray) (a : List Tm) (l : List Int) : 0 ≤ posI (vars1 (.mk 0 n s a) l) n := vars1_pos (t := .mk 0 n s a) l rfl
theorem vars1_yes {n : Int} {s : ByteArray} {a : List Tm} {l : List Int} (h : posI l n < 0) : vars1 (.mk 0 n s a) l = l ++ [n] := if_pos ⟨rfl, h⟩
theorem vars1_no {k n : Int} {s : ByteArray} {a : List Tm} {l : List Int} (h : k = 0 → 0 ≤ posI l n) : vars1 (.mk k n s a) l = l := if_neg fun hc => by
  have h1 := hc.1
  have h2 := hc.2
  simp only [Tm.kind, Tm.n, beq_iff_eq] at h1 h2
  have := h h1
  omega
/-- what apply makes of a term is the term with its variables numbered -/
theorem apT_num : ∀ (t : Tm) (l m : List Int), okT t = true → (apT posI t l).1 = mapT (numF (varsT t l ++ m)) t := by
  refine Tm.ind fun k n s a ih l m hok => ?_
  have hgo : ∀ (a : List Tm), (∀ x ∈ a, ∀ (l m : List Int), okT x = true → (apT posI x l).1 = mapT (numF (varsT x l ++ m)) x) → ∀ (l m : List Int), okT.go a = true → (apT.go posI a l).1 = a.map (mapT (numF (varsT.go a l ++ m))) := fun a => by
    induction a with
    | nil => intro _ l m _; rfl
    | cons x r ihr =>
      intro ih l m h2
      simp only [okT.go, Bool.and_eq_true] at h2
      simp only [apT.go, varsT.go, List.map_cons]
      rw [apT_vars _ x l (Nat.lt_succ_self _) h2.1, ihr (fun y hy => ih y (by simp [hy])) (varsT x l) m h2.2]
      obtain ⟨m2, h3⟩ := varsT_go_ext r (varsT x l)
      rw [ih x (by simp) l (m2 ++ m) h2.1, ← List.append_assoc, ← h3]
  rw [okT_mk] at hok
  simp only [Bool.and_eq_true] at hok
  cases hk : k == 0
  · rw [apT_nv (t := .mk k n s a) (by exact hk), mapT_mk, varsT_mk, show vars1 (.mk k n s a) l = l by simp [vars1, Tm.kind, hk]]
    simp only [Tm.kind, Tm.n, Tm.name, Tm.args]
    rw [hgo a ih l m hok.2]
    simp [numF, hk]
  · obtain rfl : k = 0 := by simpa using hk
    obtain ⟨-, -, h3, h4⟩ := node_var.1 hok.1
    obtain rfl : a = [] := List.eq_nil_of_length_eq_zero h4
    subst h3
    rw [apT_var (t := .mk 0 n { data := #[] } []) rfl, mapT_mk, varsT_mk]
    simp only [varsT.go, List.map_nil]
    have hv := vars1_pos0 n { data := #[] } [] l
    rw [show numF (vars1 (.mk 0 n { data := #[] } []) l ++ m) 0 n = posI (vars1 (.mk 0 n { data := #[] } []) l ++ m) n from rfl, posI_app m hv]
    rfl
/-- the canonical form -/
def canT (t : Tm) : Tm := mapT (numF (varsT t [])) t
def canonT (t : Tm) : Tm := if validT t then canT t else zeroT
theorem apT_can {t : Tm} (h : okT t = true) : (apT posI t []).1 = canT t := by
  rw [apT_num t [] [] h, List.append_nil]; rfl
theorem cnt_mk (k n : Int) (s : ByteArray) (a : List Tm) : cnt (.mk k n s a) = 1 + cnt.go a := cnt_eq _
theorem cnt_go_map {f : Tm → Tm} {a : List Tm} (h : ∀ x ∈ a, cnt (f x) = cnt x) : cnt.go (a.map f) = cnt.go a := by
  induction a with
  | nil => rfl
  | cons x r ih => simp only [List.map_cons, cnt.go]; rw [h x (by simp), ih (fun y hy => h y (by simp [hy]))]
theorem cnt_mapT (f : Int → Int → Int) : ∀ t, cnt (mapT f t) = cnt t := Tm.ind fun k n s a ih => by
  rw [mapT_mk, cnt_mk, cnt_mk, cnt_go_map ih]
theorem okT_num {L : List Int} (hL : L.length ≤ 8000) : ∀ (t : Tm) (l m : List Int), L = varsT t l ++ m → okT t = true → okT (mapT (numF L) t) = true := Tm.ind fun k n s a ih l m hl hok => by
  rw [okT_mk] at hok
  simp only [Bool.and_eq_true] at hok
  rw [mapT_mk, okT_mk]
  have hgo : ∀ (a : List Tm), (∀ x ∈ a, ∀ (l m : List Int), L = varsT x l ++ m → okT x = true → okT (mapT (numF L) x) = true) → ∀ (l m : List Int), L = varsT.go a l ++ m → okT.go a = true → okT.go (a.map (mapT (numF L))) = true := fun a => by
    induction a with
    | nil => intro _ l m _ _; rfl
    | cons x r ihr =>
      intro ih l m hl h2
      simp only [okT.go, Bool.and_eq_true] at h2
      simp only [List.map_cons, okT.go, Bool.and_eq_true]
      simp only [varsT.go] at hl
      obtain ⟨m2, h3⟩ := varsT_go_ext r (varsT x l)
      exact ⟨ih x (by simp) l (m2 ++ m) (by rw [hl, h3, List.append_assoc]) h2.1, ihr (fun y hy => ih y (by simp [hy])) (varsT x l) m hl h2.2⟩
  rw [List.length_map, Bool.and_eq_true]
  refine ⟨?_, hgo a ih _ m (by rw [hl, varsT_mk]) hok.2⟩
  by_cases hk : k = 0
  · subst hk
    obtain ⟨h1, h2, h3, h4⟩ := node_var.1 hok.1
    refine node_var.2 ⟨?_, ?_, h3, h4⟩
    · obtain rfl : a = [] := List.eq_nil_of_length_eq_zero h4
      have hv := vars1_pos0 n s [] l
      rw [varsT_mk] at hl
      simp only [varsT.go] at hl
      rw [show numF L 0 n = posI L n from rfl, hl, posI_app m hv]
      exact hv
    · have := (posI_range L n).2
      rw [show numF L 0 n = posI L n from rfl]; omega
  · rw [show numF L k n = n by simp [numF, hk]]; exact hok.1
theorem varsT_can {L : List Int} : ∀ (t : Tm) (l m : List Int), L = varsT t l ++ m → varsT (mapT (numF L) t) (idl l.length) = idl (varsT t l).length := Tm.ind fun k n s a ih l m hl => by
  have hgo : ∀ (a : List Tm), (∀ x ∈ a, ∀ (l m : List Int), L = varsT x l ++ m → varsT (mapT (numF L) x) (idl l.length) = idl (varsT x l).length) → ∀ (l m : List Int), L = varsT.go a l ++ m → varsT.go (a.map (mapT (numF L))) (idl l.length) = idl (varsT.go a l).length := fun a => by
    induction a with
    | nil => intro _ l m _; rfl
    | cons x r ihr =>
      intro ih l m hl
      simp only [varsT.go] at hl
      simp only [List.map_cons, varsT.go]
      obtain ⟨m2, h3⟩ := varsT_go_ext r (varsT x l)
      rw [ih x (by simp) l (m2 ++ m) (by rw [hl, h3, List.append_assoc]), ihr (fun y hy => ih y (by simp [hy])) (varsT x l) m hl]
  rw [varsT_mk] at hl
  rw [mapT_mk, varsT_mk, varsT_mk, ← hgo a ih _ m hl]
  congr 1
  by_cases hk : k = 0
  · subst hk
    have hnum : numF L 0 n = posI L n := rfl
    rw [hnum]
    obtain ⟨m2, h3⟩ := varsT_go_ext a (vars1 (.mk 0 n s a) l)
    rw [h3, List.append_assoc] at hl
    by_cases hp : posI l n < 0
    · rw [vars1_yes hp] at hl ⊢
      have h4 : posI L n = l.length := by rw [hl]; exact posI_snoc _ hp
      rw [h4, vars1_yes (by rw [posI_idl_no (Nat.le_refl _)]; omega), List.length_append, List.length_singleton, idl]
    · have hv : vars1 (.mk 0 n s a) l = l := vars1_no (fun _ => by omega)
      rw [hv] at hl ⊢
      have h4 : posI L n = posI l n := by rw [hl]; exact posI_app _ (by omega)
      obtain ⟨h5, h6⟩ := posI_range l n
      obtain ⟨i, hi⟩ : ∃ i : Nat, posI l n = i := ⟨(posI l n).toNat, by omega⟩
      rw [h4, hi]
      exact vars1_no (fun _ => by rw [posI_idl (by omega)]; omega)
  · rw [vars1_no (fun h => absurd h hk), vars1_no (fun h => absurd h hk)]
theorem mapT_twice {L : List Int} : ∀ (t : Tm) (l m : List Int), L = varsT t l ++ m → mapT (numF (idl L.length)) (mapT (numF L) t) = mapT (numF L) t := Tm.ind fun k n s a ih l m hl => by
  have hgo : ∀ (a : List Tm), (∀ x ∈ a, ∀ (l m : List Int), L = varsT x l ++ m → mapT (numF (idl L.length)) (mapT (numF L) x) = mapT (numF L) x) → ∀ (l m : List Int), L = varsT.go a l ++ m → (a.map (mapT (numF L))).map (mapT (numF (idl L.length))) = a.map (mapT (numF L)) := fun a => by
    induction a with
    | nil => intro _ l m _; rfl
    | cons x r ihr =>
      intro ih l m hl
      simp only [varsT.go] at hl
      simp only [List.map_cons]
      obtain ⟨m2, h3⟩ := varsT_go_ext r (varsT x l)
      rw [ih x (by simp) l (m2 ++ m) (by rw [hl, h3, List.append_assoc]), ihr (fun y hy => ih y (by simp [hy])) (varsT x l) m hl]
  rw [varsT_mk] at hl
  rw [mapT_mk, mapT_mk, hgo a ih _ m hl]
  congr 1
  by_cases hk : k = 0
  · subst hk
    have hnum : numF L 0 n = posI L n := rfl
    rw [hnum]
    show posI (idl L.length) (posI L n) = posI L n
    have h4 : 0 ≤ posI L n := by
      obtain ⟨m2, h3⟩ := varsT_go_ext a (vars1 (.mk 0 n s a) l)
      have hv := vars1_pos0 n s a l
      rw [hl, h3, List.append_assoc, posI_app _ hv]
      exact hv
    obtain ⟨h5, h6⟩ := posI_range L n
    obtain ⟨i, hi⟩ : ∃ i : Nat, posI L n = i := ⟨(posI L n).toNat, by omega⟩
    rw [hi]; exact posI_idl (by omega)
  · simp [numF, hk]
theorem canT_twice (t : Tm) : canT (canT t) = canT t := by
  have h1 := varsT_can (L := varsT t []) t [] [] (by simp)
  have h2 := mapT_twice (L := varsT t []) t [] [] (by simp)
  unfold canT
  rw [show varsT (mapT (numF (varsT t [])) t) [] = idl (varsT t []).length from h1]
  exact h2
theorem validT_can {t : Tm} (h : validT t = true) : validT (canT t) = true := by
  obtain ⟨h1, h2⟩ := validT_ok h
  have h3 := varsT_len _ t [] (Nat.lt_succ_self _)
  simp only [List.length_nil] at h3
  unfold validT
  rw [Bool.and_eq_true, decide_eq_true_eq]
  exact ⟨by unfold canT; rw [cnt_mapT]; exact h2, okT_num (by omega) t [] [] (by simp) h1⟩
theorem canonT_twice {t : Tm} (h : validT t = true) : canonT (canonT t) = canonT t := by
  unfold canonT
  rw [if_pos h, if_pos (validT_can h), canT_twice]

/-- no variable occurs -/
def gndT : Tm → Bool
  | .mk k _ _ a => k != 0 && go a
where go : List Tm → Bool
  | [] => true
  | x :: r => gndT x && go r
/-- an atom occurs -/
def atmT : Tm → Bool
  | .mk k _ _ a => k == 2 || go a
where go : List Tm → Bool
  | [] => false
  | x :: r => atmT x || go r
theorem gndT_mk (k n : Int) (s : ByteArray) (a : List Tm) : gndT (.mk k n s a) = (k != 0 && gndT.go a) := by rw [gndT]
theorem atmT_mk (k n : Int) (s : ByteArray) (a : List Tm) : atmT (.mk k n s a) = (k == 2 || atmT.go a) := by rw [atmT]
theorem gnd_num (L : List Int) : ∀ t : Tm, gndT t = true → mapT (numF L) t = t := Tm.ind fun k n s a ih h => by
  rw [gndT_mk] at h
  simp only [Bool.and_eq_true, bne_iff_ne, ne_eq] at h
  rw [mapT_mk, show numF L k n = n by simp [numF, h.1]]
  congr 1
  have h2 := h.2
  clear h
  induction a with
  | nil => rfl
  | cons x r ihr =>
    simp only [gndT.go, Bool.and_eq_true] at h2
    rw [List.map_cons, ih x (by simp) h2.1, ihr (fun y hy => ih y (by simp [hy])) h2.2]
theorem gnd_vars : ∀ (t : Tm) (l : List Int), gndT t = true → varsT t l = l := Tm.ind fun k n s a ih l h => by
  rw [gndT_mk] at h
  simp only [Bool.and_eq_true, bne_iff_ne, ne_eq] at h
  rw [varsT_mk, show vars1 (.mk k n s a) l = l by simp [vars1, Tm.kind, h.1]]
  have h2 := h.2
  clear h
  induction a generalizing l with
  | nil => rfl
  | cons x r ihr =>
    simp only [gndT.go, Bool.and_eq_true] at h2
    simp only [varsT.go]
    rw [ih x (by simp) l h2.1, ihr (fun y hy => ih y (by simp [hy])) l h2.2]
theorem knS_zero (s : ByteArray) : knS s ((0 : Nat) : Int) = false := by simp [knS, namesS]
/-- an expression with a value has neither variables nor atoms -/
theorem val_gnd : ∀ (t : Tm), okT t = true → ∀ n, valT t = .ok n → gndT t = true ∧ atmT t = false := Tm.ind fun k n s a ih hok v hv => by
  rw [okT_mk] at hok
  simp only [Bool.and_eq_true] at hok
  have hgo : ∀ (a : List Tm), (∀ x ∈ a, okT x = true → ∀ n, valT x = .ok n → gndT x = true ∧ atmT x = false) → okT.go a = true → ∀ l, valT.go a = .ok l → gndT.go a = true ∧ atmT.go a = false := fun a => by
    induction a with
    | nil => intro _ _ l _; exact ⟨rfl, rfl⟩
    | cons x r ihr =>
      intro ih h2 l hl
      simp only [okT.go, Bool.and_eq_true] at h2
      simp only [valT.go] at hl
      cases hx : valT x with
      | error b => rw [hx] at hl; cases hl
      | ok u =>
        rw [hx] at hl
        dsimp only at hl
        cases hr : valT.go r with
        | error b => rw [hr] at hl; cases hl
        | ok us =>
          obtain ⟨g1, g2⟩ := ih x (by simp) h2.1 u hx
          obtain ⟨g3, g4⟩ := ihr (fun y hy => ih y (by simp [hy])) h2.2 us hr
          simp only [gndT.go, atmT.go, g1, g2, g3, g4]
          exact ⟨rfl, rfl⟩
  rw [gndT_mk, atmT_mk]
  by_cases h1 : k = 1
  · subst h1
    have h2 := hok.1
    unfold nodeB at h2
    simp at h2
    obtain rfl : a = [] := h2.2
    exact ⟨rfl, rfl⟩
  · by_cases h0 : k = 0
    · subst h0
      rw [valT_var (t := .mk 0 n s a) rfl] at hv; cases hv
    · cases hkn : knS s (a.length : Int)
      · rw [valT_unk (t := .mk k n s a) h1 h0 hkn] at hv; cases hv
      · rw [valT_fun (t := .mk k n s a) h1 h0 hkn] at hv
        simp only [Tm.args, Tm.name] at hv
        cases hg : valT.go a with
        | error b => rw [hg] at hv; cases hv
        | ok l =>
          obtain ⟨g1, g2⟩ := hgo a ih hok.2 l hg
          rw [g1, g2]
          have h2 : k ≠ 2 := by
            rintro rfl
            have h3 := hok.1
            unfold nodeB at h3
            simp at h3
            obtain rfl : a = [] := h3.2
            rw [show ((([] : List Tm).length : Nat) : Int) = ((0 : Nat) : Int) from rfl, knS_zero] at hkn
            cases hkn
          simp [h0, h2]

/-- a variable replaced -/
def putT (v : Int) (by_ : Tm) : Tm → Tm
  | .mk k n s a => if k = 0 ∧ n = v then by_ else .mk k n s (go a)
where go : List Tm → List Tm
  | [] => []
  | x :: r => putT v by_ x :: go r
def occT (v : Int) : Tm → Nat
  | .mk k n _ a => (if k = 0 ∧ n = v then 1 else 0) + go a
where go : List Tm → Nat
  | [] => 0
  | x :: r => occT v x + go r
theorem putT_go (v : Int) (b : Tm) (a : List Tm) : putT.go v b a = a.map (putT v b) := by
  induction a with
  | nil => rfl
  | cons x r ih => simp [putT.go, ih]
theorem putT_mk (v : Int) (b : Tm) (k n : Int) (s : ByteArray) (a : List Tm) : putT v b (.mk k n s a) = if k = 0 ∧ n = v then b else .mk k n s (a.map (putT v b)) := by
  rw [putT, putT_go]
theorem occT_mk (v : Int) (k n : Int) (s : ByteArray) (a : List Tm) : occT v (.mk k n s a) = (if k = 0 ∧ n = v then 1 else 0) + occT.go v a := by rw [occT]
theorem cnt_put (v : Int) (b : Tm) : ∀ t, okT t = true → cnt (putT v b t) + occT v t = cnt t + occT v t * cnt b := Tm.ind fun k n s a ih hok => by
  rw [okT_mk] at hok
  simp only [Bool.and_eq_true] at hok
  have hgo : ∀ (a : List Tm), (∀ x ∈ a, okT x = true → cnt (putT v b x) + occT v x = cnt x + occT v x * cnt b) → okT.go a = true → cnt.go (a.map (putT v b)) + occT.go v a = cnt.go a + occT.go v a * cnt b := fun a => by
    induction a with
    | nil => intro _ _; simp [cnt.go, occT.go]
    | cons x r ihr =>
      intro ih h2
      simp only [okT.go, Bool.and_eq_true] at h2
      simp only [List.map_cons, cnt.go, occT.go, Nat.add_mul]
      have h3 := ih x (by simp) h2.1
      have h4 := ihr (fun y hy => ih y (by simp [hy])) h2.2
      omega
  rw [putT_mk, occT_mk]
  by_cases h : k = 0 ∧ n = v
  · obtain ⟨rfl, rfl⟩ := h
    obtain ⟨-, -, -, h4⟩ := node_var.1 hok.1
    obtain rfl : a = [] := List.eq_nil_of_length_eq_zero h4
    rw [if_pos ⟨rfl, rfl⟩, cnt_mk]
    simp [cnt.go, occT.go]
    omega
  · rw [if_neg h, cnt_mk, cnt_mk]
    have := hgo a ih hok.2
    simp only [if_neg h, Nat.zero_add]
    omega
theorem ok_put {v : Int} {b : Tm} (hb : okT b = true) : ∀ t, okT t = true → okT (putT v b t) = true := Tm.ind fun k n s a ih hok => by
  rw [okT_mk] at hok
  simp only [Bool.and_eq_true] at hok
  rw [putT_mk]
  by_cases h : k = 0 ∧ n = v
  · rw [if_pos h]; exact hb
  · rw [if_neg h, okT_mk, List.length_map, hok.1, Bool.true_and, okT_go_all]
    intro x hx
    obtain ⟨y, hy, rfl⟩ := List.mem_map.1 hx
    exact ih y hy ((okT_go_all a).1 hok.2 y hy)
theorem rng_put {v : Int} {b : Tm} (hb : rngT b = true) : ∀ t, rngT t = true → rngT (putT v b t) = true := Tm.ind fun k n s a ih hr => by
  rw [rngT_mk] at hr
  simp only [Bool.and_eq_true] at hr
  rw [putT_mk]
  by_cases h : k = 0 ∧ n = v
  · rw [if_pos h]; exact hb
  · rw [if_neg h, rngT_mk, hr.1, Bool.true_and, rngT_go_all]
    intro x hx
    obtain ⟨y, hy, rfl⟩ := List.mem_map.1 hx
    exact ih y hy ((rngT_go_all a).1 hr.2 y hy)
theorem valT_go_congr {f g : Tm → Tm} {a : List Tm} (h : ∀ x ∈ a, valT (f x) = valT (g x)) : valT.go (a.map f) = valT.go (a.map g) := by
  induction a with
  | nil => rfl
  | cons x r ih =>
    simp only [List.map_cons, valT.go]
    rw [h x (by simp), ih (fun y hy => h y (by simp [hy]))]
theorem valT_mk (k n : Int) (s : ByteArray) (a : List Tm) : valT (.mk k n s a) = if (k == 1) = true then .ok n else if (k == 0) = true then .error instC else if knS s (a.length : Int) = false then .error (unkC s a.length)
    else match valT.go a with
      | .error b => .error b
      | .ok l => finV s l := by rw [valT]; rfl
/-- an expression in place of a variable, or its value -/
theorem val_put {v : Int} {b c : Tm} (hb : valT b = valT c) : ∀ t, valT (putT v b t) = valT (putT v c t) := Tm.ind fun k n s a ih => by
  rw [putT_mk, putT_mk]
  by_cases h : k = 0 ∧ n = v
  · rw [if_pos h, if_pos h]; exact hb
  · rw [if_neg h, if_neg h, valT_mk, valT_mk, List.length_map, List.length_map, valT_go_congr ih]
theorem validT_zero : validT zeroT = true := by simp [validT, cnt, cnt.go, okT, okT.go, nodeB]
theorem validT_clone (t : Tm) : validT (cloneT t) = true := by
  unfold cloneT
  split
  · assumption
  · exact validT_zero
theorem validT_structC (s : ByteArray) (l : List Tm) : validT (structC s l) = true := by
  unfold structC
  split <;> exact validT_clone _
/-- balls are valid -/
theorem valT_ball : ∀ (t : Tm) (b : Tm), valT t = .error b → validT b = true := Tm.ind fun k n s a ih b hv => by
  have hgo : ∀ (a : List Tm), (∀ x ∈ a, ∀ b, valT x = .error b → validT b = true) → ∀ b, valT.go a = .error b → validT b = true := fun a => by
    induction a with
    | nil => intro _ b hb; cases hb
    | cons x r ihr =>
      intro ih b hb
      simp only [valT.go] at hb
      cases hx : valT x with
      | error c => rw [hx] at hb; injection hb with hb; subst hb; exact ih x (by simp) _ hx
      | ok u =>
        rw [hx] at hb
        dsimp only at hb
        cases hr : valT.go r with
        | error c => rw [hr] at hb; injection hb with hb; subst hb; exact ihr (fun y hy => ih y (by simp [hy])) _ hr
        | ok us => rw [hr] at hb; cases hb
  have hR : ∀ p : Int × Int, valR p = .error b → validT b = true := fun p hp => by
    unfold valR at hp
    repeat' split at hp
    all_goals first | cases hp | skip
    all_goals
      unfold evalC namedC
      split
      · exact validT_zero
      · exact validT_structC _ _
  rw [valT_mk] at hv
  split at hv
  · cases hv
  · split at hv
    · injection hv with hv; subst hv; exact validT_structC _ _
    · split at hv
      · injection hv with hv
        subst hv
        unfold unkC typeC aboutC
        split
        · exact validT_zero
        · exact validT_structC _ _
      · cases hg : valT.go a with
        | error c => rw [hg] at hv; injection hv with hv; subst hv; exact hgo a ih _ hg
        | ok l =>
          rw [hg] at hv
          dsimp only at hv
          unfold finV at hv
          split at hv
          · cases hv
          · exact hR _ hv
          · exact hR _ hv
end Go.Proofs.YtcagaaacfcpoeaaGreat
