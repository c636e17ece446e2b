/-
  What the library's variables hold, and that it stays so; small laws on strings. Walks: the texts of names, numbers, registers, predicates and keys (code).
-/
import Derived.Test.YtbipeakinmbdiaaGreatDoorKi
import Derived.Test.YtbipeakinmbdiaaGreatDoorKh
import Derived.Test.YtbipeakinmbdiaaGreatDoorKd
namespace Go.Proofs.YtbipeakinmbdiaaGreatDoor
section
open Go.RowKit

theorem cell_keep {w w' : World} (hb : Below w.heap.size w w') {a : Addr} {v : Value} (h : w.cell? a = some v) : w'.cell? a = some v := (hb.cell (World.block_lt_of_cell? w a h)).trans h
theorem var_keep {w w' : World} (hb : Below w.heap.size w w') {n : String} {r : Array Value} (h : w.var? Tryz.prog n = some r) : w'.var? Tryz.prog n = some r := by
  unfold World.var? at *
  cases hg : Tryz.prog.globalNamed n with
  | none => simp [hg] at h
  | some g =>
    simp only [hg, Option.bind_some] at h ⊢
    have hlt : g < w.heap.size := by
      rcases Nat.lt_or_ge g w.heap.size with h' | h'
      · exact h'
      · rw [Array.getElem?_eq_none h'] at h; simp at h
    rw [hb.block g hlt]
    exact h
/-- what the library's variables hold -/
structure Env (w : World) : Prop where
  pow : Lib.TabIs Tryz.prog w "internal/strconv.uint64pow10" .u64 Lib.pow10Tab
  syn : ∃ tp p, w.var? Tryz.prog "strconv.ErrSyntax" = some #[.iface tp p] ∧ w.cell? ⟨6, 0, none⟩ = some (.iface tp p)
  rng : ∃ tp p, w.var? Tryz.prog "strconv.ErrRange" = some #[.iface tp p]
  cas : Lib.CaseVar 8 Lib.caseA w
  utf : Lib.Utf8Tabs 4 5 w
  mx : ∃ m, w.cell? ⟨1, 0, none⟩ = some (.int .i64 m)
theorem Env.next {w w' : World} (h : Env w) (hb : Below w.heap.size w w') : Env w' := by
  obtain ⟨h1, ⟨tp, p, h2, h2'⟩, ⟨tq, q, h3⟩, h4, ⟨h5, h6⟩, ⟨m, h7⟩⟩ := h
  exact ⟨var_keep hb h1, ⟨tp, p, var_keep hb h2, cell_keep hb h2'⟩, ⟨tq, q, var_keep hb h3⟩, Lib.CaseVar_below h4 hb, ⟨fun c hc => cell_keep hb (h5 c hc), fun i hi => ⟨cell_keep hb (h6 i hi).1, cell_keep hb (h6 i hi).2⟩⟩, ⟨m, cell_keep hb h7⟩⟩
theorem grow_below (w : World) (k : Nat) (os : Array Obj) : Below w.heap.size w (Sort.grow (w.drewN k) os) :=
  ⟨rfl, rfl, rfl, by simp [Sort.grow, World.drewN], fun j hj => by
    show ((w.drewN k).heap ++ os)[j]? = _
    rw [Array.getElem?_append_left (show j < (w.drewN k).heap.size from hj)]; rfl⟩
theorem ret_str {a b : ByteArray} (h : a = b) : Ending.returned (.string a) = .returned (.string b) := by rw [h]
theorem num_len (n : Int) (h : inR n) : (numL n).length ≤ 21 := Lib.itoa_length_le n h.1 h.2
end
section
open Go.RowKit

theorem info5 : (Tryz.prog.info? 5).map (fun i => (i.zero, i.size, i.bytes)) = some (some (.int .u8 0), 1, 1) := by kernel_rfl
theorem u8_bounds (c : UInt8) : c.toNat < 256 := c.toNat_lt
theorem u8_eq (c : UInt8) (n : Nat) (h : n < 256) : ((c.toNat : Int) == (n : Int)) = (c == UInt8.ofNat n) := by
  rw [Bool.eq_iff_iff, beq_iff_eq, beq_iff_eq]
  constructor
  · intro e
    have e' : c.toNat = n := by omega
    rw [← e', UInt8.ofNat_toNat]
  · rintro rfl
    rw [UInt8.toNat_ofNat']
    omega
theorem plain_any (c : UInt8) (w : World) : Calls Tryz.prog 105 #[.int .u8 c.toNat] w fun e w' => e = .returned (.bool (plainB c)) ∧ w' = w := by
  have h1 : ((c.toNat : Int) == 34) = (c == 34) := u8_eq c 34 (by omega)
  have h2 : ((c.toNat : Int) == 92) = (c == 92) := u8_eq c 92 (by omega)
  have hp : plainB c = ((decide (32 ≤ (c.toNat : Int)) && decide ((c.toNat : Int) ≤ 126)) && ((c.toNat : Int) != 34 && (c.toNat : Int) != 92)) := by
    unfold plainB bne
    rw [h1, h2]
    congr 1
    congr 1 <;> rw [decide_eq_decide] <;> omega
  have HP := Lib.hid hp
  clear hp h1 h2
  obtain ⟨n, hn⟩ : ∃ n : Int, n = c.toNat := ⟨_, rfl⟩
  rw [← hn] at HP ⊢
  clear hn
  go_enter Tryz.func105, Tryz.ntmps105
  go_wp2_with fail
  all_goals go_ret
  all_goals refine ⟨ret_bool ?_, rfl⟩
  all_goals rw [HP.out]
  all_goals first | (simp [*]; done) | (simp [*]; omega)
theorem fmt_any (n : Int) (w : World) (hn : inR n) (h : Env w) : Calls Tryz.prog 36 #[.int .i64 n, .int .i64 10] w fun e w' => e = .returned (.string (S (numL n))) ∧ Below w.heap.size w w' :=
  (Tryz.strconv_FormatInt_10 n hn.1 hn.2 w h.pow).mono (by rintro e w' ⟨rfl, k, os, rfl⟩; exact ⟨rfl, grow_below _ _ _⟩)
theorem itoa_any (n : Int) (w : World) (hn : inR n) (h : Env w) : Calls Tryz.prog 75 #[.int .i64 n] w fun e w' => e = .returned (.string (S (numL n))) ∧ Below w.heap.size w w' :=
  (Tryz.strconv_Itoa n hn.1 hn.2 w h.pow).mono (by rintro e w' ⟨rfl, k, os, rfl⟩; exact ⟨rfl, grow_below _ _ _⟩)
/-- a row of bytes of one's own -/
def bCs (l : List UInt8) : List Value := l.map fun c => .int .u8 c.toNat
theorem bCs_app (l m : List UInt8) : bCs (l ++ m) = bCs l ++ bCs m := List.map_append
theorem bCs_len (l : List UInt8) : (bCs l).length = l.length := List.length_map _
def QtAt (w wr : World) (v : Value) (l : List UInt8) : Prop := wr.ownsRow w.heap.size 5 1 v l.length (bCs l) ∧ Below w.heap.size w wr
theorem QtAt.app {w wr w3 : World} {v v' : Value} {l m : List UInt8} {o : Obj} (h : QtAt w wr v l) (ho : w3.ownsRow w.heap.size 5 1 v' (l.length + m.length) (bCs l ++ bCs m)) (hg : (wr.alloc o).grownBy w3 v.ownBlock) : QtAt w w3 v' (l ++ m) := by
  refine ⟨by rw [List.length_append, bCs_app]; exact ho, (h.2.alloc h.2.size o).grown hg (by have := h.2.size; simp; omega) (fun g e => (own_lt h.1 e).1)⟩
theorem QtAt.back {w wr : World} {v : Value} {l : List UInt8} (h : QtAt w wr v l) (hl : l ≠ []) : (convert 45 9 v).run Tryz.prog wr = .ok (.string (S l)) wr := by
  have hlen : 0 < l.length := List.length_pos_iff.2 hl
  obtain ⟨g, cap, rfl⟩ := own_some2 h.1 hlen
  exact run_convert_bytes_back wr 45 9 5 ⟨g, 0, none⟩ cap l (by kernel_rfl) (by kernel_rfl) (by kernel_rfl) (fun j hj => by
    have hc := h.1.cellAt (g := g) j (by omega)
    rw [show (⟨g, 0, none⟩ : Addr).add j = ⟨g, j, none⟩ by cases j <;> simp [Addr.add], hc]
    unfold bCs
    simp [hj])
theorem four_new (w : World) (a b c d : Value) (t : TypeId) : ∀ j u, [a, b, c, d][j]? = some u → (w.alloc (.cells #[a, b, c, d] t)).cell? ((⟨w.heap.size, 0, none⟩ : Addr).add j) = some u := by
  intro j u hj
  match j, hj with
  | 0, hj => simp at hj; subst hj; simp [Addr.add]
  | 1, hj => simp at hj; subst hj; simp [Addr.add]
  | 2, hj => simp at hj; subst hj; simp [Addr.add]
  | 3, hj => simp at hj; subst hj; simp [Addr.add]
theorem esc_len (l : List UInt8) : (l.flatMap escB).length ≤ 4 * l.length := by
  induction l with
  | nil => simp
  | cons c t ih =>
    rw [List.flatMap_cons, List.length_append, List.length_cons]
    have : (escB c).length ≤ 4 := by unfold escB; split <;> simp
    omega
theorem quote_len (l : List UInt8) : (quoteL l).length ≤ 4 * l.length + 2 := by
  unfold quoteL
  have := esc_len l
  simp only [List.length_cons, List.length_append, List.length_nil]
  omega
theorem hexB_at : ∀ k (hk : k < (⟨#[48, 49, 50, 51, 52, 53, 54, 55, 56, 57, 97, 98, 99, 100, 101, 102]⟩ : ByteArray).size), (⟨#[48, 49, 50, 51, 52, 53, 54, 55, 56, 57, 97, 98, 99, 100, 101, 102]⟩ : ByteArray)[k]'hk = hexD k := by
  intro k hk
  have key : ∀ k : Fin 16, (⟨#[48, 49, 50, 51, 52, 53, 54, 55, 56, 57, 97, 98, 99, 100, 101, 102]⟩ : ByteArray)[k.1]'k.2 = hexD k.1 := by decide
  exact key ⟨k, hk⟩
theorem hex_hi (n : Nat) (hn : n < 256) (h : ((n : Int) / 16).toNat < (⟨#[48, 49, 50, 51, 52, 53, 54, 55, 56, 57, 97, 98, 99, 100, 101, 102]⟩ : ByteArray).size) : (⟨#[48, 49, 50, 51, 52, 53, 54, 55, 56, 57, 97, 98, 99, 100, 101, 102]⟩ : ByteArray)[((n : Int) / 16).toNat]'h = hexD (n / 16) := by
  rw [hexB_at, show ((n : Int) / 16).toNat = n / 16 by omega]
set_option maxRecDepth 100000 in
theorem and15 (n : Nat) (hn : n < 256) : bits .and .u8 (n : Int) 15 = ((n % 16 : Nat) : Int) := by
  have key : ∀ k : Fin 256, bits .and .u8 (k.1 : Int) 15 = ((k.1 % 16 : Nat) : Int) := by decide
  exact key ⟨n, hn⟩
theorem hex_lo (n : Nat) (h : (((n % 16 : Nat) : Int)).toNat < (⟨#[48, 49, 50, 51, 52, 53, 54, 55, 56, 57, 97, 98, 99, 100, 101, 102]⟩ : ByteArray).size) : (⟨#[48, 49, 50, 51, 52, 53, 54, 55, 56, 57, 97, 98, 99, 100, 101, 102]⟩ : ByteArray)[(((n % 16 : Nat) : Int)).toNat]'h = hexD (n % 16) := by
  rw [hexB_at, Int.toNat_natCast]
set_option maxHeartbeats 1000000 in
theorem quote_any (s : ByteArray) (w : World) (hs : s.size ≤ 1000000000) : Calls Tryz.prog 77 #[.string s] w fun e w' => e = .returned (.string (S (quoteL s.data.toList))) ∧ Below w.heap.size w w' := by
  obtain ⟨i5, hi, hz0, hz1, hz2⟩ := info_parts info5
  have HI := Lib.hid hz1
  go_enter Tryz.func77, Tryz.ntmps77
  go_upto_region 2 with fail
  have HQ := Lib.hid (show QtAt w (w.alloc (.cells #[.int .u8 34] 5)) (.slice (some ⟨w.heap.size, 0, none⟩) 1 1) [34] from ⟨World.ownsRow_lit w #[.int .u8 34] 1 (Nat.le_refl _) (by unfold maxLen; omega) rfl, bAlloc _ _⟩)
  go_wp2_with fail
  go_loopw [3, 8] (fun v i wr => ∃ j : Nat, i = .int .i64 j ∧ j ≤ s.size ∧ Hid (QtAt w wr v (34 :: (s.data.toList.take j).flatMap escB))) (fun _ i _ => s.size - (intOf i).toNat)
  case atStart => exact ⟨0, rfl, Nat.zero_le _, HQ⟩
  case round =>
    obtain ⟨j, rfl, hj, HV⟩ := hrel
    by_cases hlt : j < s.size
    · have hlj : decide ((j : Int) < (s.size : Int)) = true := by simp; omega
      have hget : s.data.toList[j]? = some (s[j]'hlt) := by simp [hlt]; rfl
      go_upto_region 5 with fail
      go_wp2_with fail
      refine (plain_any (s[j]'hlt) wr).mono ?_
      rintro e w2 ⟨rfl, rfl⟩
      have hstep : (s.data.toList.take (j + 1)).flatMap escB = (s.data.toList.take j).flatMap escB ++ escB (s[j]'hlt) := by rw [List.take_add_one, hget]; simp
      have hbl : (34 :: (s.data.toList.take j).flatMap escB).length ≤ 4000000001 := by
        have h1 := esc_len (s.data.toList.take j)
        have h2 : (s.data.toList.take j).length ≤ j := List.length_take_le _ _
        simp only [List.length_cons]
        omega
      obtain ⟨l, hl⟩ : ∃ l, Hid (l = 34 :: (s.data.toList.take j).flatMap escB) := ⟨_, rfl⟩
      rw [← hl.out] at HV hbl
      have HST := Lib.hid hstep
      clear hstep hget
      cases hp : plainB (s[j]'hlt)
      · have HE := Lib.hid (show escB (s[j]'hlt) = [92, 120, hexD ((s[j]'hlt).toNat / 16), hexD ((s[j]'hlt).toNat % 16)] by unfold escB; rw [if_neg (by rw [hp]; simp)])
        clear hp
        go_upto_region 7 with fail
        refine wp_region_N (fun _ => True) (fun _ => true) (by kernel_rfl) ?_
        have hS0 : True := trivial
        refine wpAnyN_take (i := 0) (v := ?v1) rfl (by kernel_rfl) (by kernel_rfl) (by kernel_rfl) (by kernel_rfl) (fun _ _ _ h => h) (Or.inl ⟨by rfl, ?hy1⟩) (by assumption) ?_
        case hy1 => intro w hSw; (try dsimp only at hSw); go_simp; try with_reducible rfl
        simp only [Act.put, List.getElem_toArray, List.getElem_cons_zero, List.setIfInBounds_toArray, List.set_cons_zero, List.set_cons_succ]
        refine wpAnyN_take (i := 1) (v := ?v2) rfl (by kernel_rfl) (by kernel_rfl) (by kernel_rfl) (by kernel_rfl) (fun _ _ _ h => h) (Or.inl ⟨by rfl, ?hy2⟩) (by assumption) ?_
        case hy2 => intro w hSw; (try dsimp only at hSw); go_simp; try with_reducible rfl
        simp only [Act.put, List.getElem_toArray, List.getElem_cons_zero, List.getElem_cons_succ, List.setIfInBounds_toArray, List.set_cons_zero, List.set_cons_succ]
        refine wpAnyN_take (i := 2) (v := ?v3) rfl (by kernel_rfl) (by kernel_rfl) (by kernel_rfl) (by kernel_rfl) (fun _ _ _ h => h) (Or.inl ⟨by rfl, ?hy3⟩) (by assumption) ?_
        case hy3 => intro w hSw; (try dsimp only at hSw); go_simp; try with_reducible rfl
        simp only [Act.put, List.getElem_toArray, List.getElem_cons_zero, List.getElem_cons_succ, List.setIfInBounds_toArray, List.set_cons_zero, List.set_cons_succ]
        refine wpAnyN_take (i := 3) (v := ?v4) rfl (by kernel_rfl) (by kernel_rfl) (by kernel_rfl) (by kernel_rfl) (fun _ _ _ h => h) (Or.inl ⟨by rfl, ?hy4⟩) (by assumption) ?_
        case hy4 => intro w hSw; (try dsimp only at hSw); go_simp; try with_reducible rfl
        simp only [Act.put, List.getElem_toArray, List.getElem_cons_zero, List.getElem_cons_succ, List.setIfInBounds_toArray, List.set_cons_zero, List.set_cons_succ]
        refine wpAnyN_take (i := 4) (v := ?v5) rfl (by kernel_rfl) (by kernel_rfl) (by kernel_rfl) (by kernel_rfl) (fun _ _ _ h => h) (Or.inl ⟨by rfl, ?hy5⟩) (by assumption) ?_
        case hy5 => intro w hSw; (try dsimp only at hSw); go_simp; try with_reducible rfl
        simp only [Act.put, List.getElem_toArray, List.getElem_cons_zero, List.getElem_cons_succ, List.setIfInBounds_toArray, List.set_cons_zero, List.set_cons_succ]
        refine wpAnyN_take (i := 5) (v := .int .u8 (hexD ((s[j]'hlt).toNat / 16)).toNat) rfl (by kernel_rfl) (by kernel_rfl) (by kernel_rfl) (by kernel_rfl) (fun _ _ _ h => h) (Or.inl ⟨by rfl, ?hv5⟩) (by assumption) ?_
        case hv5 =>
          intro w hSw
          go_simp
          have := u8_bounds (s[j]'hlt)
          rw [dif_pos (by omega), hex_hi _ this]
          rfl
        simp only [Act.put, List.getElem_toArray, List.getElem_cons_zero, List.getElem_cons_succ, List.setIfInBounds_toArray, List.set_cons_zero, List.set_cons_succ]
        refine wpAnyN_take (i := 6) (v := ?v6) rfl (by kernel_rfl) (by kernel_rfl) (by kernel_rfl) (by kernel_rfl) (fun _ _ _ h => h) (Or.inl ⟨by rfl, ?hy6⟩) (by assumption) ?_
        case hy6 => intro w hSw; (try dsimp only at hSw); go_simp; try with_reducible rfl
        simp only [Act.put, List.getElem_toArray, List.getElem_cons_zero, List.getElem_cons_succ, List.setIfInBounds_toArray, List.set_cons_zero, List.set_cons_succ]
        refine wpAnyN_take (i := 7) (v := ?v7) rfl (by kernel_rfl) (by kernel_rfl) (by kernel_rfl) (by kernel_rfl) (fun _ _ _ h => h) (Or.inl ⟨by rfl, ?hy7⟩) (by assumption) ?_
        case hy7 => intro w hSw; (try dsimp only at hSw); go_simp; try with_reducible rfl
        simp only [Act.put, List.getElem_toArray, List.getElem_cons_zero, List.getElem_cons_succ, List.setIfInBounds_toArray, List.set_cons_zero, List.set_cons_succ]
        refine wpAnyN_take (i := 8) (v := ?v8) rfl (by kernel_rfl) (by kernel_rfl) (by kernel_rfl) (by kernel_rfl) (fun _ _ _ h => h) (Or.inl ⟨by rfl, ?hy8⟩) (by assumption) ?_
        case hy8 => intro w hSw; (try dsimp only at hSw); go_simp; try with_reducible rfl
        simp only [Act.put, List.getElem_toArray, List.getElem_cons_zero, List.getElem_cons_succ, List.setIfInBounds_toArray, List.set_cons_zero, List.set_cons_succ]
        refine wpAnyN_take (i := 9) (v := ?v9) rfl (by kernel_rfl) (by kernel_rfl) (by kernel_rfl) (by kernel_rfl) (fun _ _ _ h => h) (Or.inl ⟨by rfl, ?hy9⟩) (by assumption) ?_
        case hy9 => intro w hSw; (try dsimp only at hSw); go_simp; try with_reducible rfl
        simp only [Act.put, List.getElem_toArray, List.getElem_cons_zero, List.getElem_cons_succ, List.setIfInBounds_toArray, List.set_cons_zero, List.set_cons_succ]
        refine wpAnyN_take (i := 10) (v := .int .u8 (hexD ((s[j]'hlt).toNat % 16)).toNat) rfl (by kernel_rfl) (by kernel_rfl) (by kernel_rfl) (by kernel_rfl) (fun _ _ _ h => h) (Or.inl ⟨by rfl, ?hv10⟩) (by assumption) ?_
        case hv10 =>
          intro w hSw
          go_simp
          have := u8_bounds (s[j]'hlt)
          simp only [and15 _ this]
          rw [dif_pos (by omega), hex_lo]
          rfl
        simp only [Act.put, List.getElem_toArray, List.getElem_cons_zero, List.getElem_cons_succ, List.setIfInBounds_toArray, List.set_cons_zero, List.set_cons_succ]
        refine wpAnyN_one (i := 11) (by kernel_rfl) rfl (fun K hK => ?_)
        simp only [List.getElem_toArray, List.getElem_cons_zero, List.getElem_cons_succ]
        go_simp
        refine hK _ _ (fun _ => trivial) ?_
        (try simp only [Act.put, List.setIfInBounds_toArray, List.set_cons_zero, List.set_cons_succ])
        refine wpAnyN_one (i := 12) (by kernel_rfl) rfl (fun K2 hK2 => ?_)
        simp only [List.getElem_toArray, List.getElem_cons_zero, List.getElem_cons_succ]
        refine wp_append_own _ (.tmp 21) (.tmp 32) 45 rfl w.heap.size 5 i5 (.int .u8 0) 1 1 (by kernel_rfl) hi hz0 HI.out hz2 rfl (by decide) _ _ _ rfl (World.ownsRow.drew (HV.out.1.alloc _)) ⟨w2.heap.size, 0, none⟩ 4 4 [.int .u8 92, .int .u8 120, .int .u8 (hexD ((s[j]'hlt).toNat / 16)).toNat, .int .u8 (hexD ((s[j]'hlt).toNat % 16)).toNat] rfl rfl (four_new w2 _ _ _ _ 5) ?d3 ?d4 ?d5 ?d6 ?_
        case d3 => simp [Value.oneCell']
        case d4 => unfold maxLen; omega
        case d5 => omega
        case d6 => have := HV.out.2.size; simp; omega
        intro v' w3 hown' hg _
        have HA : Hid (QtAt w w3 v' (34 :: (s.data.toList.take (j + 1)).flatMap escB)) := Lib.hid (by rw [HST.out, HE.out, ← List.cons_append, ← hl.out]; exact HV.out.app (o := .cells #[.int .u8 92, .int .u8 120, .int .u8 (hexD ((s[j]'hlt).toNat / 16)).toNat, .int .u8 (hexD ((s[j]'hlt).toNat % 16)).toNat] 5) hown' ⟨hg.os, hg.tape, hg.output, hg.size, hg.block⟩)
        clear hown' hg
        refine hK2 _ _ (fun _ => trivial) ?_
        (try simp only [Act.put, List.setIfInBounds_toArray, List.set_cons_zero, List.set_cons_succ])
        refine wpAnyN_take (i := 13) (v := ?v10) rfl (by kernel_rfl) (by kernel_rfl) (by kernel_rfl) (by kernel_rfl) (fun _ _ _ h => h) (Or.inl ⟨by rfl, ?hy10⟩) (by assumption) ?_
        case hy10 => intro w hSw; (try dsimp only at hSw); go_simp; try with_reducible rfl
        simp only [Act.put, List.getElem_toArray, List.getElem_cons_zero, List.getElem_cons_succ, List.setIfInBounds_toArray, List.set_cons_zero, List.set_cons_succ]
        refine wpAnyN_done (by kernel_rfl) ?_ _
        go_wp2_with fail
        exact ⟨⟨j + 1, by go_num, hlt, HA⟩, by simp [intOf]; omega⟩
      · have HE := Lib.hid (show escB (s[j]'hlt) = [s[j]'hlt] by unfold escB; rw [if_pos hp])
        clear hp
        go_wp2_with (at_builtin; refine wpList_append_own_at _ rfl (.tmp 15) (.tmp 19) 45 rfl w.heap.size 5 i5 (.int .u8 0) 1 1 (by kernel_rfl) hi hz0 HI.out hz2 rfl (by decide) _ _ _ rfl (HV.out.1.alloc _) ⟨w2.heap.size, 0, none⟩ 1 1 [.int .u8 (s[j]'hlt).toNat] rfl rfl ?a1 ?a2 ?a3 ?a4 ?a5 ?_)
        case a1 => exact cell_one_new _ _ _
        case a2 => simp [Value.oneCell']
        case a3 => unfold maxLen; omega
        case a4 => omega
        case a5 => have := HV.out.2.size; simp; omega
        intro v' w3 hown' hg _ _
        have HA : Hid (QtAt w w3 v' (34 :: (s.data.toList.take (j + 1)).flatMap escB)) := Lib.hid (by rw [HST.out, HE.out, ← List.cons_append, ← hl.out]; exact HV.out.app hown' hg)
        clear hown' hg
        go_wp2_with fail
        exact ⟨⟨j + 1, by go_num, hlt, HA⟩, by simp [intOf]; omega⟩
    · have hlj : decide ((j : Int) < (s.size : Int)) = false := by simp; omega
      have hjn : (s.data.toList.take j).flatMap escB = s.data.toList.flatMap escB := by rw [List.take_of_length_le (by show s.data.toList.length ≤ j; have : s.data.toList.length = s.size := Array.length_toList; omega)]
      have HQ2 := Lib.hid (show QtAt w wr u3 (34 :: s.data.toList.flatMap escB) by rw [← hjn]; exact HV.out)
      have hbl : (34 :: s.data.toList.flatMap escB).length ≤ 4000000001 := by
        have h1 := esc_len s.data.toList
        have h2 : s.data.toList.length = s.size := Array.length_toList
        simp only [List.length_cons]
        omega
      obtain ⟨l, hl⟩ : ∃ l, Hid (l = 34 :: s.data.toList.flatMap escB) := ⟨_, rfl⟩
      rw [← hl.out] at HQ2 hbl
      clear hjn HV
      go_wp2_with (at_builtin; refine wpList_append_own_at _ rfl (.tmp 35) (.tmp 36) 45 rfl w.heap.size 5 i5 (.int .u8 0) 1 1 (by kernel_rfl) hi hz0 HI.out hz2 rfl (by decide) _ _ _ rfl (HQ2.out.1.alloc _) ⟨wr.heap.size, 0, none⟩ 1 1 [.int .u8 34] rfl rfl ?b1 ?b2 ?b3 ?b4 ?b5 ?_)
      case b1 => exact cell_one_new _ _ _
      case b2 => simp [Value.oneCell']
      case b3 => unfold maxLen; omega
      case b4 => omega
      case b5 => have := HQ2.out.2.size; simp; omega
      intro v' w3 hown' hg _ _
      have HA : Hid (QtAt w w3 v' (l ++ [34])) := Lib.hid (HQ2.out.app (m := [34]) hown' hg)
      have hcv := HA.out.back (by simp)
      clear hown' hg
      go_wp2_with fail
      go_ret
      exact ⟨ret_str (by rw [hl.out]; rfl), HA.out.2⟩
end
end Go.Proofs.YtbipeakinmbdiaaGreatDoor
