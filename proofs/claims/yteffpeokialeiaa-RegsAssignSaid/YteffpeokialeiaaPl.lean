/-
  Plain: the allocation of numbers to temporaries, by a sorted list of free numbers and by a search for the least free one; both are one.
-/
namespace Go.Proofs.Yteffpeokialeiaa

/-- a temporary: its register, its number, the first and the last instruction in which it occurs -/
structure Tm where
  x : Int
  n : Int
  f : Nat
  l : Nat

/-- is a temporary in use at an instruction that writes some registers? -/
def Tm.used (t : Tm) (k : Nat) (wr : List Int) : Bool := decide (t.f ≤ k) && (decide (k < t.l) || wr.contains t.x)

/-- the least number from n on that is not in a list -/
def leastFrom (l : List Int) : Nat → Int → Int
  | 0, n => n
  | fuel + 1, n => if l.contains n then leastFrom l fuel (n + 1) else n

def least (base : Int) (l : List Int) : Int := leastFrom l (l.length + 1) (base + 1)

def has (ts : List Tm) (x : Int) : Bool := ts.any fun t => t.x == x

/-- one written register -/
def numStep (la : Int → Nat) (base : Int) (k : Nat) (wr : List Int) (ts : List Tm) (x : Int) : List Tm :=
  if decide (x ≤ base) || has ts x then ts else ts ++ [⟨x, least base ((ts.filter (Tm.used · k wr)).map Tm.n), k, la x⟩]

abbrev Seg := List (List Int × List Int)

/-- the temporaries of a segment's beginning, from instruction k on -/
def numFrom (la : Int → Nat) (base : Int) : Nat → Seg → List Tm → List Tm
  | _, [], ts => ts
  | k, (_, wr) :: l, ts => numFrom la base (k + 1) l (wr.foldl (numStep la base k wr) ts)

/-- the program's state -/
structure St where
  num : List (Int × Int)
  free : List Int
  next : Int
  use : Int
  most : Int

def look (m : List (Int × Int)) (x : Int) : Option Int := (m.find? fun p => p.1 == x).map Prod.snd

def ins (n : Int) : List Int → List Int
  | [] => [n]
  | m :: l => if n ≤ m then n :: m :: l else m :: ins n l

def St.release (s : St) (x : Int) : St := { s with free := ins ((look s.num x).getD 0) s.free, use := s.use - 1 }

def readStep (la : Int → Nat) (base : Int) (k : Nat) (wr : List Int) (s : St) (x : Int) : St :=
  if decide (base < x) && la x == k && !wr.contains x then s.release x else s

def writeStep (base : Int) (s : St) (x : Int) : St :=
  if (look s.num x).isSome || decide (x ≤ base) then s else
    match s.free with
    | m :: fs => { s with num := (x, m) :: s.num, free := fs, use := s.use + 1 }
    | [] => { s with num := (x, s.next) :: s.num, next := s.next + 1, use := s.use + 1 }

def endStep (la : Int → Nat) (base : Int) (k : Nat) (s : St) (x : Int) : St :=
  if decide (base < x) && la x == k then s.release x else s

def St.peak (s : St) : St := { s with most := max s.most s.use }

def instrStep (la : Int → Nat) (base : Int) (k : Nat) (rd wr : List Int) (s : St) : St :=
  wr.foldl (endStep la base k) ((wr.foldl (writeStep base) (rd.foldl (readStep la base k wr) s)).peak)

def allocFrom (la : Int → Nat) (base : Int) : Nat → Seg → St → St
  | _, [], s => s
  | k, (rd, wr) :: l, s => allocFrom la base (k + 1) l (instrStep la base k rd wr s)

/-! lists -/

theorem perm_ins (n : Int) : ∀ l : List Int, (ins n l).Perm (n :: l)
  | [] => List.Perm.refl _
  | m :: l => by
    unfold ins
    split
    · exact List.Perm.refl _
    · exact ((perm_ins n l).cons m).trans (List.Perm.swap n m l)

theorem sorted_ins (n : Int) : ∀ l : List Int, l.Pairwise (· ≤ ·) → (ins n l).Pairwise (· ≤ ·)
  | [], _ => by simp [ins]
  | m :: l, h => by
    rw [List.pairwise_cons] at h
    unfold ins
    split
    · rename_i hnm
      refine List.pairwise_cons.2 ⟨fun y hy => ?_, List.pairwise_cons.2 h⟩
      rcases List.mem_cons.1 hy with rfl | hy
      · exact hnm
      · have := h.1 y hy; omega
    · rename_i hnm
      refine List.pairwise_cons.2 ⟨fun y hy => ?_, sorted_ins n l h.2⟩
      rcases List.mem_cons.1 ((perm_ins n l).mem_iff.1 hy) with rfl | hy
      · omega
      · exact h.1 y hy

theorem leastFrom_eq (l : List Int) (m : Int) (hm : m ∉ l) : ∀ (fuel : Nat) (n : Int), n ≤ m → (m - n).toNat < fuel + 1 → (∀ y, n ≤ y → y < m → y ∈ l) → leastFrom l fuel n = m
  | 0, n, h1, h2, _ => by unfold leastFrom; omega
  | fuel + 1, n, h1, h2, h3 => by
    unfold leastFrom
    by_cases e : n = m
    · rw [if_neg (by rw [e]; simpa using hm)]; exact e
    · rw [if_pos (by simpa using h3 n (Int.le_refl _) (by omega))]
      exact leastFrom_eq l m hm fuel (n + 1) (by omega) (by omega) (fun y hy hy' => h3 y (by omega) hy')

theorem nodup_le : ∀ {l m : List Int}, l.Nodup → (∀ x ∈ l, x ∈ m) → l.length ≤ m.length
  | [], _, _, _ => Nat.zero_le _
  | a :: l, m, h, hs => by
    rw [List.nodup_cons] at h
    have ha := hs a List.mem_cons_self
    have := nodup_le (l := l) (m := m.erase a) h.2 (fun x hx => by
      have hne : x ≠ a := fun e => h.1 (e ▸ hx)
      exact (List.mem_erase_of_ne hne).2 (hs x (List.mem_cons_of_mem _ hx)))
    have hl := List.length_erase_of_mem ha
    have := List.length_pos_of_mem ha
    simp only [List.length_cons]
    omega

def upFrom (n : Int) : Nat → List Int
  | 0 => []
  | d + 1 => n :: upFrom (n + 1) d

theorem mem_upFrom : ∀ (d : Nat) (n y : Int), y ∈ upFrom n d ↔ n ≤ y ∧ y < n + d
  | 0, n, y => by simp only [upFrom, List.not_mem_nil, false_iff]; omega
  | d + 1, n, y => by rw [upFrom, List.mem_cons, mem_upFrom d (n + 1) y]; omega

theorem nodup_upFrom : ∀ (d : Nat) (n : Int), (upFrom n d).Nodup
  | 0, _ => List.nodup_nil
  | d + 1, n => List.nodup_cons.2 ⟨fun h => by have := (mem_upFrom d (n + 1) n).1 h; omega, nodup_upFrom d _⟩

theorem length_upFrom : ∀ (d : Nat) (n : Int), (upFrom n d).length = d
  | 0, _ => rfl
  | d + 1, n => by simp [upFrom, length_upFrom d]

/-- a list that holds the numbers from n on has at least so many elements -/
theorem length_of_all (l : List Int) (d : Nat) (n : Int) (h : ∀ y, n ≤ y → y < n + d → y ∈ l) : d ≤ l.length := by
  have := nodup_le (nodup_upFrom d n) (m := l) (fun x hx => by have := (mem_upFrom d n x).1 hx; exact h x this.1 this.2)
  rwa [length_upFrom] at this

theorem least_eq (base : Int) (l : List Int) (m : Int) (hb : base < m) (hm : m ∉ l) (h : ∀ y, base < y → y < m → y ∈ l) : least base l = m := by
  unfold least
  have := length_of_all l (m - (base + 1)).toNat (base + 1) (fun y h1 h2 => h y (by omega) (by omega))
  exact leastFrom_eq l m hm _ _ (by omega) (by omega) (fun y _ h2 => h y (by omega) h2)

/-! the invariant -/

def num? (ts : List Tm) (x : Int) : Option Int := (ts.find? fun t => t.x == x).map Tm.n

structure Ok (la : Int → Nat) (base : Int) (ts : List Tm) (p : Tm → Bool) (s : St) : Prop where
  num : ∀ x, look s.num x = num? ts x
  keys : ts.Pairwise (fun a b => a.x ≠ b.x)
  above : ∀ t ∈ ts, base < t.x
  last : ∀ t ∈ ts, t.l = la t.x
  sorted : s.free.Pairwise (· ≤ ·)
  perm : (s.free ++ (ts.filter p).map Tm.n).Perm (upFrom (base + 1) (s.next - (base + 1)).toNat)
  nx : base < s.next
  use : s.use = ((ts.filter p).length : Int)

theorem find_of_mem {ts : List Tm} (h : ts.Pairwise (fun a b => a.x ≠ b.x)) {t : Tm} (ht : t ∈ ts) : ts.find? (fun u => u.x == t.x) = some t := by
  induction ts with
  | nil => cases ht
  | cons a l ih =>
    rw [List.pairwise_cons] at h
    rcases List.mem_cons.1 ht with rfl | ht
    · simp
    · have := h.1 t ht
      rw [List.find?_cons, show (a.x == t.x) = false by simpa using this]
      exact ih h.2 ht

theorem num_of_mem {ts : List Tm} (h : ts.Pairwise (fun a b => a.x ≠ b.x)) {t : Tm} (ht : t ∈ ts) : num? ts t.x = some t.n := by
  unfold num?; rw [find_of_mem h ht]; rfl

theorem num_none {ts : List Tm} {x : Int} (h : has ts x = false) : num? ts x = none := by
  unfold num?
  rw [Option.map_eq_none_iff, List.find?_eq_none]
  intro t ht hx
  have : has ts x = true := List.any_eq_true.2 ⟨t, ht, hx⟩
  rw [h] at this; cases this

theorem num_some {ts : List Tm} {x : Int} (h : has ts x = true) : ∃ t ∈ ts, t.x = x := by
  obtain ⟨t, ht, hx⟩ := List.any_eq_true.1 h
  exact ⟨t, ht, by simpa using hx⟩

theorem num_isSome (ts : List Tm) (x : Int) : (num? ts x).isSome = has ts x := by
  cases h : has ts x with
  | false => rw [num_none h]; rfl
  | true => obtain ⟨t, ht, rfl⟩ := num_some h
            unfold num?
            cases e : ts.find? (fun u => u.x == t.x) with
            | some _ => rfl
            | none => have := List.find?_eq_none.1 e t ht; simp at this

/-- a filter with one element struck -/
theorem filter_strike {ts : List Tm} {p : Tm → Bool} (hk : ts.Pairwise (fun a b => a.x ≠ b.x)) {t : Tm} (ht : t ∈ ts) (hp : p t = true) :
    (ts.filter p).Perm (t :: ts.filter fun u => p u && !(u.x == t.x)) := by
  induction ts with
  | nil => cases ht
  | cons a l ih =>
    rw [List.pairwise_cons] at hk
    rcases List.mem_cons.1 ht with rfl | ht
    · rw [List.filter_cons_of_pos hp, List.filter_cons_of_neg (by simp)]
      refine List.Perm.cons _ (List.Perm.of_eq ?_)
      refine List.filter_congr (fun u hu => ?_)
      have := hk.1 u hu
      rw [show (u.x == t.x) = false by simpa using (Ne.symm this)]; simp
    · have hne := hk.1 t ht
      have := ih hk.2 ht
      by_cases ha : p a = true
      · rw [List.filter_cons_of_pos ha, List.filter_cons_of_pos (by rw [ha, show (a.x == t.x) = false by simpa using hne]; rfl)]
        exact (this.cons a).trans (List.Perm.swap t a _)
      · rw [List.filter_cons_of_neg ha, List.filter_cons_of_neg (by intro h; exact ha (by simpa using (Bool.and_eq_true _ _ ▸ h).1))]
        exact this

theorem Ok.congr {la : Int → Nat} {base : Int} {ts : List Tm} {p q : Tm → Bool} {s : St} (h : Ok la base ts p s) (e : ∀ t ∈ ts, p t = q t) : Ok la base ts q s := by
  have := List.filter_congr e
  exact ⟨h.num, h.keys, h.above, h.last, h.sorted, this ▸ h.perm, h.nx, this ▸ h.use⟩

theorem Ok.release {la : Int → Nat} {base : Int} {ts : List Tm} {p : Tm → Bool} {s : St} (h : Ok la base ts p s) {t : Tm} (ht : t ∈ ts) (hp : p t = true) :
    Ok la base ts (fun u => p u && !(u.x == t.x)) (s.release t.x) := by
  have hs := filter_strike h.keys ht hp
  have hn : (look s.num t.x).getD 0 = t.n := by rw [h.num, num_of_mem h.keys ht]; rfl
  refine ⟨h.num, h.keys, h.above, h.last, sorted_ins _ _ h.sorted, ?_, h.nx, ?_⟩
  · show ((ins ((look s.num t.x).getD 0) s.free) ++ _).Perm _
    rw [hn]
    refine List.Perm.trans ?_ h.perm
    refine ((perm_ins t.n s.free).append_right _).trans ?_
    refine List.Perm.trans ?_ ((hs.map Tm.n).append_left s.free).symm
    rw [List.map_cons]
    exact List.perm_middle.symm
  · show s.use - 1 = _
    rw [h.use, hs.length_eq, List.length_cons]
    omega

theorem Ok.bounds {la : Int → Nat} {base : Int} {ts : List Tm} {p : Tm → Bool} {s : St} (h : Ok la base ts p s) (m : Int) : m ∈ s.free ++ (ts.filter p).map Tm.n ↔ base < m ∧ m < s.next := by
  rw [h.perm.mem_iff, mem_upFrom]
  have := h.nx
  omega

theorem Ok.nodup {la : Int → Nat} {base : Int} {ts : List Tm} {p : Tm → Bool} {s : St} (h : Ok la base ts p s) : (s.free ++ (ts.filter p).map Tm.n).Nodup :=
  h.perm.nodup_iff.2 (nodup_upFrom _ _)



theorem ok_reads {la : Int → Nat} {base : Int} {k : Nat} {wr : List Int} {ts : List Tm} : ∀ (rd dn : List Int) (p : Tm → Bool) (s : St),
    (dn ++ rd).Nodup → (∀ x ∈ rd, base < x → has ts x = true) → (∀ t ∈ ts, la t.x = k → p t = true) →
    Ok la base ts (fun t => p t && !(dn.contains t.x && t.l == k && !wr.contains t.x)) s →
    Ok la base ts (fun t => p t && !((dn ++ rd).contains t.x && t.l == k && !wr.contains t.x)) (rd.foldl (readStep la base k wr) s)
  | [], dn, p, s, _, _, _, h => by simpa using h
  | x :: rd, dn, p, s, hnd, hm, hp, h => by
    rw [List.foldl_cons, show dn ++ x :: rd = (dn ++ [x]) ++ rd by simp]
    refine ok_reads rd (dn ++ [x]) p _ (by simpa using hnd) (fun y hy => hm y (List.mem_cons_of_mem _ hy)) hp ?_
    unfold readStep
    split
    · rename_i hc
      simp only [Bool.and_eq_true, decide_eq_true_eq, beq_iff_eq, Bool.not_eq_true'] at hc
      obtain ⟨t, ht, rfl⟩ := num_some (hm x List.mem_cons_self hc.1.1)
      have hx : dn.contains t.x = false := by
        have := List.nodup_append.1 hnd
        simpa using fun hd => this.2.2 _ hd _ List.mem_cons_self rfl
      refine (h.release ht (by rw [hp t ht hc.1.2, hx]; rfl)).congr (fun u hu => ?_)
      by_cases e : u.x = t.x
      · have hl := h.last u hu
        have : dn.contains u.x = false := by rw [e]; exact hx
        rw [show (u.x == t.x) = true by simpa using e, this]
        have h2 : (dn ++ [t.x]).contains u.x = true := by simp [e]
        have h3 : (u.l == k) = true := by rw [hl, e, hc.1.2]; simp
        have h4 : wr.contains u.x = false := by rw [e]; exact hc.2
        rw [h2, h3, h4]; simp
      · rw [show (u.x == t.x) = false by simpa using e]
        have h2 : (dn ++ [t.x]).contains u.x = dn.contains u.x := by
          rw [Bool.eq_iff_iff]; simp [e]
        rw [h2]; simp
    · rename_i hc
      refine h.congr (fun u hu => ?_)
      by_cases e : u.x = x
      · have hl := h.last u hu
        have ha := h.above u hu
        have : (u.l == k && !wr.contains u.x) = false := by
          rw [hl, e]
          rw [e] at ha
          rw [show decide (base < x) = true by simpa using ha] at hc
          simpa using hc
        rw [Bool.and_assoc, Bool.and_assoc, this, Bool.and_false, Bool.and_false]
      · have h2 : (dn ++ [x]).contains u.x = dn.contains u.x := by
          rw [Bool.eq_iff_iff]; simp [e]
        rw [h2]

theorem ok_ends {la : Int → Nat} {base : Int} {k : Nat} {ts : List Tm} : ∀ (wr dn : List Int) (p : Tm → Bool) (s : St),
    (dn ++ wr).Nodup → (∀ x ∈ wr, base < x → has ts x = true) → (∀ t ∈ ts, t.x ∈ wr → p t = true) →
    Ok la base ts (fun t => p t && !(dn.contains t.x && t.l == k)) s →
    Ok la base ts (fun t => p t && !((dn ++ wr).contains t.x && t.l == k)) (wr.foldl (endStep la base k) s)
  | [], dn, p, s, _, _, _, h => by simpa using h
  | x :: wr, dn, p, s, hnd, hm, hp, h => by
    rw [List.foldl_cons, show dn ++ x :: wr = (dn ++ [x]) ++ wr by simp]
    refine ok_ends wr (dn ++ [x]) p _ (by simpa using hnd) (fun y hy => hm y (List.mem_cons_of_mem _ hy)) (fun t ht hx => hp t ht (List.mem_cons_of_mem _ hx)) ?_
    unfold endStep
    split
    · rename_i hc
      simp only [Bool.and_eq_true, decide_eq_true_eq, beq_iff_eq] at hc
      obtain ⟨t, ht, rfl⟩ := num_some (hm x List.mem_cons_self hc.1)
      have hx : dn.contains t.x = false := by
        have := List.nodup_append.1 hnd
        simpa using fun hd => this.2.2 _ hd _ List.mem_cons_self rfl
      refine (h.release ht (by rw [hp t ht List.mem_cons_self, hx]; rfl)).congr (fun u hu => ?_)
      by_cases e : u.x = t.x
      · have hl := h.last u hu
        have : dn.contains u.x = false := by rw [e]; exact hx
        rw [show (u.x == t.x) = true by simpa using e, this]
        have h2 : (dn ++ [t.x]).contains u.x = true := by simp [e]
        have h3 : (u.l == k) = true := by rw [hl, e, hc.2]; simp
        rw [h2, h3]; simp
      · rw [show (u.x == t.x) = false by simpa using e]
        have h2 : (dn ++ [t.x]).contains u.x = dn.contains u.x := by
          rw [Bool.eq_iff_iff]; simp [e]
        rw [h2]; simp
    · rename_i hc
      refine h.congr (fun u hu => ?_)
      by_cases e : u.x = x
      · have hl := h.last u hu
        have ha := h.above u hu
        have : (u.l == k) = false := by
          rw [hl, e]
          rw [e] at ha
          rw [show decide (base < x) = true by simpa using ha] at hc
          simpa using hc
        rw [this, Bool.and_false, Bool.and_false]
      · have h2 : (dn ++ [x]).contains u.x = dn.contains u.x := by
          rw [Bool.eq_iff_iff]; simp [e]
        rw [h2]

theorem has_snoc (ts : List Tm) (t : Tm) (x : Int) : has (ts ++ [t]) x = (has ts x || t.x == x) := by simp [has]

theorem num_snoc {ts : List Tm} {t : Tm} (h : has ts t.x = false) (x : Int) : num? (ts ++ [t]) x = if t.x = x then some t.n else num? ts x := by
  unfold num?
  rw [List.find?_append]
  by_cases e : t.x = x
  · subst e
    have : ts.find? (fun u => u.x == t.x) = none := by
      rw [List.find?_eq_none]; intro u hu hx
      have : has ts t.x = true := List.any_eq_true.2 ⟨u, hu, hx⟩
      rw [h] at this; cases this
    rw [this]; simp
  · rw [if_neg e, List.find?_cons, show (t.x == x) = false by simpa using e]
    simp

theorem look_cons (m : List (Int × Int)) (y v x : Int) : look ((y, v) :: m) x = if y = x then some v else look m x := by
  unfold look
  rw [List.find?_cons]
  by_cases e : y = x
  · simp [e]
  · rw [if_neg e, show (y == x) = false by simpa using e]

theorem mem_map_n {ts : List Tm} {p : Tm → Bool} {y : Int} : y ∈ (ts.filter p).map Tm.n ↔ ∃ t ∈ ts, p t = true ∧ t.n = y := by
  simp [List.mem_map, List.mem_filter, and_assoc]

theorem upFrom_snoc : ∀ (d : Nat) (n : Int), upFrom n (d + 1) = upFrom n d ++ [n + d]
  | 0, n => by simp [upFrom]
  | d + 1, n => by
    rw [upFrom, upFrom_snoc d (n + 1)]
    show n :: (upFrom (n + 1) d ++ _) = n :: (upFrom (n + 1) d ++ _)
    rw [show n + 1 + (d : Int) = n + ((d + 1 : Nat) : Int) by omega]

/-- one written register -/
theorem Ok.write {la : Int → Nat} {base : Int} {k : Nat} {wr : List Int} {ts : List Tm} {s : St} {x : Int} (hx : x ∈ wr) (hf : ∀ t ∈ ts, t.f ≤ k)
    (h : Ok la base ts (fun t => decide (k < t.l) || wr.contains t.x) s) :
    Ok la base (numStep la base k wr ts x) (fun t => decide (k < t.l) || wr.contains t.x) (writeStep base s x) ∧ ∀ t ∈ numStep la base k wr ts x, t.f ≤ k := by
  unfold numStep writeStep
  by_cases hb : x ≤ base
  · rw [if_pos (by simp [hb]), if_pos (by simp [hb])]; exact ⟨h, hf⟩
  cases hh : has ts x with
  | true =>
    rw [if_pos (by simp), if_pos (by rw [h.num, num_isSome, hh]; rfl)]; exact ⟨h, hf⟩
  | false =>
    have hb' : base < x := by omega
    have hn0 : num? ts x = none := num_none hh
    rw [if_neg (by simp [hb']), if_neg (by rw [h.num, hn0]; simp [hb'])]
    have hu : ts.filter (Tm.used · k wr) = ts.filter (fun t => decide (k < t.l) || wr.contains t.x) := by
      refine List.filter_congr (fun t ht => ?_)
      show (decide (t.f ≤ k) && _) = _
      rw [show decide (t.f ≤ k) = true by simpa using hf t ht, Bool.true_and]
    rw [hu]
    have keys : ∀ (n : Int) (l : Nat), (ts ++ [(⟨x, n, k, l⟩ : Tm)]).Pairwise (fun a b => a.x ≠ b.x) := fun n l => by
      refine List.pairwise_append.2 ⟨h.keys, List.pairwise_singleton _ _, fun a ha b hb => ?_⟩
      rw [List.mem_singleton.1 hb]
      intro e
      have : has ts x = true := List.any_eq_true.2 ⟨a, ha, by simpa using e⟩
      rw [hh] at this; cases this
    have above : ∀ (n : Int) (l : Nat), ∀ t ∈ ts ++ [(⟨x, n, k, l⟩ : Tm)], base < t.x := fun n l t ht => by
      rcases List.mem_append.1 ht with ht | ht
      · exact h.above t ht
      · rw [List.mem_singleton.1 ht]; exact hb'
    have last : ∀ n : Int, ∀ t ∈ ts ++ [(⟨x, n, k, la x⟩ : Tm)], t.l = la t.x := fun n t ht => by
      rcases List.mem_append.1 ht with ht | ht
      · exact h.last t ht
      · rw [List.mem_singleton.1 ht]
    have hpx : ∀ n, ([(⟨x, n, k, la x⟩ : Tm)].filter fun t => decide (k < t.l) || wr.contains t.x) = [⟨x, n, k, la x⟩] := fun n => by
      rw [List.filter_cons_of_pos (by simp [hx])]; rfl
    have hf' : ∀ (n : Int) (l : Nat), ∀ t ∈ ts ++ [(⟨x, n, k, l⟩ : Tm)], t.f ≤ k := fun n l t ht => by
      rcases List.mem_append.1 ht with ht | ht
      · exact hf t ht
      · rw [List.mem_singleton.1 ht]; exact Nat.le_refl _
    have num : ∀ n y, look ((x, n) :: s.num) y = num? (ts ++ [⟨x, n, k, la x⟩]) y := fun n y => by
      rw [look_cons, num_snoc (t := ⟨x, n, k, la x⟩) hh, h.num]
    have hnd := h.nodup
    cases hfr : s.free with
    | nil =>
      have hl : least base ((ts.filter (fun t => decide (k < t.l) || wr.contains t.x)).map Tm.n) = s.next := by
        refine least_eq base _ _ h.nx (fun hm => ?_) (fun y h1 h2 => ?_)
        · have := (h.bounds s.next).1 (List.mem_append_right _ hm); omega
        · have := (h.bounds y).2 ⟨h1, h2⟩
          rw [hfr] at this; simpa using this
      rw [hl]
      refine ⟨⟨num _, keys _ _, above _ _, last _, by simp, ?_, by show base < s.next + 1; have := h.nx; omega, ?_⟩, hf' _ _⟩
      · show (([] : List Int) ++ _).Perm _
        have hpm := h.perm
        rw [hfr] at hpm
        rw [List.filter_append, hpx, List.map_append, ← List.append_assoc]
        have e : (s.next + 1 - (base + 1)).toNat = (s.next - (base + 1)).toNat + 1 := by have := h.nx; omega
        rw [e]
        refine (hpm.append_right _).trans (List.Perm.of_eq ?_)
        rw [upFrom_snoc]
        have := h.nx
        simp
        omega
      · show s.use + 1 = _
        rw [List.filter_append, hpx, List.length_append, h.use]; simp
    | cons m fs =>
      have hs := h.sorted
      rw [hfr] at hs hnd
      rw [List.pairwise_cons] at hs
      have hmm : m ∈ s.free ++ (ts.filter (fun t => decide (k < t.l) || wr.contains t.x)).map Tm.n := by rw [hfr]; simp
      have hmb := (h.bounds m).1 hmm
      have hl : least base ((ts.filter (fun t => decide (k < t.l) || wr.contains t.x)).map Tm.n) = m := by
        refine least_eq base _ _ hmb.1 (fun hm => ?_) (fun y h1 h2 => ?_)
        · have := List.nodup_append.1 hnd
          exact this.2.2 m List.mem_cons_self m hm rfl
        · have := (h.bounds y).2 ⟨h1, by omega⟩
          rw [hfr] at this
          rcases List.mem_append.1 this with h3 | h3
          · rcases List.mem_cons.1 h3 with rfl | h3
            · omega
            · have := hs.1 y h3; omega
          · exact h3
      rw [hl]
      refine ⟨⟨num _, keys _ _, above _ _, last _, hs.2, ?_, h.nx, ?_⟩, hf' _ _⟩
      · show (fs ++ _).Perm _
        rw [List.filter_append, hpx, List.map_append, ← List.append_assoc]
        refine List.Perm.trans ?_ h.perm
        rw [hfr]
        refine List.perm_append_comm.trans ?_
        exact List.Perm.refl _
      · show s.use + 1 = _
        rw [List.filter_append, hpx, List.length_append, h.use]; simp

theorem ok_writes {la : Int → Nat} {base : Int} {k : Nat} {wr : List Int} : ∀ (l : List Int) (ts : List Tm) (s : St), (∀ x ∈ l, x ∈ wr) → (∀ t ∈ ts, t.f ≤ k) →
    Ok la base ts (fun t => decide (k < t.l) || wr.contains t.x) s →
    Ok la base (l.foldl (numStep la base k wr) ts) (fun t => decide (k < t.l) || wr.contains t.x) (l.foldl (writeStep base) s) ∧ ∀ t ∈ l.foldl (numStep la base k wr) ts, t.f ≤ k
  | [], _, _, _, hf, h => ⟨h, hf⟩
  | x :: l, ts, s, hw, hf, h => by
    obtain ⟨h1, h2⟩ := h.write (hw x List.mem_cons_self) hf
    exact ok_writes l _ _ (fun y hy => hw y (List.mem_cons_of_mem _ hy)) h2 h1

/-- a segment from instruction k on fits what was seen before it -/
def Fit (la : Int → Nat) (base : Int) : Nat → Seg → (Int → Prop) → Prop
  | _, [], _ => True
  | k, (rd, wr) :: l, seen => rd.Nodup ∧ wr.Nodup ∧ (∀ x ∈ rd, base < x → seen x) ∧ (∀ x, base < x → x ∈ rd ∨ x ∈ wr → k ≤ la x) ∧
      (∀ x, base < x → seen x ∨ x ∈ wr → la x = k → x ∈ rd ∨ x ∈ wr) ∧ Fit la base (k + 1) l (fun x => seen x ∨ x ∈ wr)

theorem has_numStep {la : Int → Nat} {base : Int} {k : Nat} {wr : List Int} (ts : List Tm) (x y : Int) (hy : base < y) : has (numStep la base k wr ts x) y = (has ts y || x == y) := by
  unfold numStep
  split
  · rename_i h
    simp only [Bool.or_eq_true, decide_eq_true_eq] at h
    by_cases e : x = y
    · subst e
      rcases h with h | h
      · omega
      · rw [h]; rfl
    · rw [show (x == y) = false by simpa using e, Bool.or_false]
  · rw [has_snoc]

theorem has_numFold {la : Int → Nat} {base : Int} {k : Nat} {wr : List Int} : ∀ (l : List Int) (ts : List Tm) (y : Int), base < y → (has (l.foldl (numStep la base k wr) ts) y = true ↔ has ts y = true ∨ y ∈ l)
  | [], ts, y, _ => by simp
  | x :: l, ts, y, hy => by
    rw [List.foldl_cons, has_numFold l _ y hy, has_numStep ts x y hy]
    rw [Bool.or_eq_true, beq_iff_eq, List.mem_cons, or_assoc, show (x = y) = (y = x) from propext eq_comm]

/-- the greatest number of temporaries in use, from instruction k on -/
def mostFrom (la : Int → Nat) (base : Int) : Nat → Seg → List Tm → Int → Int
  | _, [], _, m => m
  | k, (_, wr) :: l, ts, m => mostFrom la base (k + 1) l (wr.foldl (numStep la base k wr) ts) (max m (((wr.foldl (numStep la base k wr) ts).filter (Tm.used · k wr)).length : Int))

theorem readStep_most (la : Int → Nat) (base : Int) (k : Nat) (wr : List Int) : ∀ (l : List Int) (s : St), (l.foldl (readStep la base k wr) s).most = s.most
  | [], _ => rfl
  | x :: l, s => by rw [List.foldl_cons, readStep_most]; unfold readStep; split <;> rfl
theorem endStep_most (la : Int → Nat) (base : Int) (k : Nat) : ∀ (l : List Int) (s : St), (l.foldl (endStep la base k) s).most = s.most
  | [], _ => rfl
  | x :: l, s => by rw [List.foldl_cons, endStep_most]; unfold endStep; split <;> rfl
theorem writeStep_most (base : Int) : ∀ (l : List Int) (s : St), (l.foldl (writeStep base) s).most = s.most
  | [], _ => rfl
  | x :: l, s => by
    rw [List.foldl_cons, writeStep_most]; unfold writeStep
    split
    · rfl
    · split <;> rfl

theorem ok_step {la : Int → Nat} {base : Int} {k : Nat} {rd wr : List Int} {l : Seg} {ts : List Tm} {s : St} {seen : Int → Prop}
    (hs : ∀ x, base < x → (has ts x = true ↔ seen x)) (hf : ∀ t ∈ ts, t.f < k) (hfit : Fit la base k ((rd, wr) :: l) seen)
    (h : Ok la base ts (fun t => decide (k ≤ t.l)) s) :
    Ok la base (wr.foldl (numStep la base k wr) ts) (fun t => decide (k + 1 ≤ t.l)) (instrStep la base k rd wr s) ∧
    (∀ t ∈ wr.foldl (numStep la base k wr) ts, t.f ≤ k) ∧
    (instrStep la base k rd wr s).most = max s.most (((wr.foldl (numStep la base k wr) ts).filter (Tm.used · k wr)).length : Int) ∧
    ((∃ s', Ok la base (wr.foldl (numStep la base k wr) ts) (Tm.used · k wr) s') ∧ ∀ x, look (instrStep la base k rd wr s).num x = num? (wr.foldl (numStep la base k wr) ts) x) := by
  obtain ⟨n1, n2, f1, f2, f3, _⟩ := hfit
  have hr := ok_reads (wr := wr) (k := k) rd [] (fun t => decide (k ≤ t.l)) s (by simpa using n1) (fun x hx hb => (hs x hb).2 (f1 x hx hb))
    (fun t ht hl => by rw [h.last t ht, hl]; simp) (h.congr fun t _ => by simp)
  have hseen : ∀ t ∈ ts, seen t.x := fun t ht => (hs t.x (h.above t ht)).1 (List.any_eq_true.2 ⟨t, ht, by simp⟩)
  replace hr := hr.congr (q := fun t => decide (k < t.l) || wr.contains t.x) (fun t ht => by
    have hl := h.last t ht
    rw [List.nil_append]
    by_cases hw : wr.contains t.x = true
    · have := f2 t.x (h.above t ht) (Or.inr (by simpa using hw))
      rw [hw, show decide (k ≤ t.l) = true by simpa [hl] using this]; simp
    · have hw' : wr.contains t.x = false := by simpa using hw
      rw [hw']
      by_cases e : t.l = k
      · have hrd : rd.contains t.x = true := by
          rcases f3 t.x (h.above t ht) (Or.inl (hseen t ht)) (hl ▸ e) with h1 | h1
          · simpa using h1
          · exact absurd (by simpa using h1) hw
        rw [hrd, show (t.l == k) = true by simpa using e]; simp; omega
      · rw [show (t.l == k) = false by simpa using e, Bool.and_false, Bool.false_and, Bool.not_false, Bool.and_true, Bool.or_false, Bool.eq_iff_iff, decide_eq_true_eq, decide_eq_true_eq]; omega)
  obtain ⟨hw, hfw⟩ := ok_writes (wr := wr) wr ts _ (fun _ hx => hx) (fun t ht => Nat.le_of_lt (hf t ht)) hr
  have hu : (wr.foldl (numStep la base k wr) ts).filter (Tm.used · k wr) = (wr.foldl (numStep la base k wr) ts).filter (fun t => decide (k < t.l) || wr.contains t.x) := by
    refine List.filter_congr (fun t ht => ?_)
    show (decide (t.f ≤ k) && _) = _
    rw [show decide (t.f ≤ k) = true by simpa using hfw t ht, Bool.true_and]
  have hp : Ok la base (wr.foldl (numStep la base k wr) ts) (fun t => decide (k < t.l) || wr.contains t.x) (wr.foldl (writeStep base) (rd.foldl (readStep la base k wr) s)).peak :=
    ⟨hw.num, hw.keys, hw.above, hw.last, hw.sorted, hw.perm, hw.nx, hw.use⟩
  have he := ok_ends (k := k) wr [] (fun t => decide (k < t.l) || wr.contains t.x) _ (by simpa using n2) (fun x hx hb => (has_numFold wr ts x hb).2 (Or.inr hx))
    (fun t _ hx => by simp [hx]) (hp.congr fun t _ => by simp)
  refine ⟨he.congr (fun t ht => ?_), hfw, ?_, ?_⟩
  · have hl := hw.last t ht
    rw [List.nil_append]
    by_cases hc : wr.contains t.x = true
    · have := f2 t.x (hw.above t ht) (Or.inr (by simpa using hc))
      rw [hc, Bool.or_true, Bool.true_and, Bool.true_and, Bool.eq_iff_iff, Bool.not_eq_true', beq_eq_false_iff_ne, decide_eq_true_eq]; omega
    · have hc' : wr.contains t.x = false := by simpa using hc
      rw [hc', Bool.or_false, Bool.false_and, Bool.not_false, Bool.and_true, Bool.eq_iff_iff, decide_eq_true_eq, decide_eq_true_eq]
      omega
  · show (wr.foldl (endStep la base k) _).most = _
    rw [endStep_most]
    show max (wr.foldl (writeStep base) (rd.foldl (readStep la base k wr) s)).most (wr.foldl (writeStep base) (rd.foldl (readStep la base k wr) s)).use = _
    rw [writeStep_most, readStep_most, hw.use, hu]
  · refine ⟨⟨_, hw.congr (fun t ht => ?_)⟩, he.num⟩
    show _ = (decide (t.f ≤ k) && _)
    rw [show decide (t.f ≤ k) = true by simpa using hfw t ht, Bool.true_and]

theorem ok_all {la : Int → Nat} {base : Int} : ∀ (l : Seg) (k : Nat) (ts : List Tm) (s : St) (seen : Int → Prop),
    (∀ x, base < x → (has ts x = true ↔ seen x)) → (∀ t ∈ ts, t.f < k) → Fit la base k l seen → Ok la base ts (fun t => decide (k ≤ t.l)) s →
    Ok la base (numFrom la base k l ts) (fun t => decide (k + l.length ≤ t.l)) (allocFrom la base k l s) ∧ (allocFrom la base k l s).most = mostFrom la base k l ts s.most
  | [], k, ts, s, seen, _, _, _, h => ⟨h, rfl⟩
  | (rd, wr) :: l, k, ts, s, seen, hs, hf, hfit, h => by
    obtain ⟨h1, h2, h3, _⟩ := ok_step hs hf hfit h
    have := ok_all l (k + 1) _ _ (fun x => seen x ∨ x ∈ wr) (fun x hb => by rw [has_numFold wr ts x hb, hs x hb]) (fun t ht => by have := h2 t ht; omega) hfit.2.2.2.2.2 h1
    rw [h3] at this
    refine ⟨this.1.congr (fun t _ => ?_), this.2⟩
    rw [List.length_cons, show k + 1 + l.length = k + (l.length + 1) by omega]

end Go.Proofs.Yteffpeokialeiaa
