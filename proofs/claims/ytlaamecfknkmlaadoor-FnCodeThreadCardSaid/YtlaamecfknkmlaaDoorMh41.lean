/- Merged texts: contracts and plain lemmas (Bools). -/
import Derived.Test.YtlaamecfknkmlaaDoorMh40
/- Plain law: slices of truths of the call's own; what is reached, step by step. No program in sight. -/
namespace Go.Kt
set_option linter.unusedVariables false
open Go.RowKit

def OwnB (w : World) (B E : Nat) (v : Value) (l : List Bool) : Prop := w.ownsRow B E 1 v l.length (l.map Value.bool)
theorem mapB_get (l : List Bool) (i : Nat) (h : i < l.length) : (l.map Value.bool)[i]? = some (.bool (nthB l i)) := by
  rw [List.getElem?_map, List.getElem?_eq_getElem h, nthB_getElem l i h]; rfl
def BoolsAt (w : World) (a : Option Addr) (l : List Bool) : Prop :=
  ∃ b off, (0 < l.length → a = some ⟨b, off, none⟩ ∧ b < w.heap.size) ∧ ∀ i, i < l.length → w.cell? ⟨b, off + i, none⟩ = some (.bool (nthB l i))
theorem BoolsAt.ext {w w' : World} {a : Option Addr} {l : List Bool} (h : BoolsAt w a l) (e : Ext w w') : BoolsAt w' a l := by
  obtain ⟨b, off, h1, h2⟩ := h
  exact ⟨b, off, fun h0 => ⟨(h1 h0).1, Nat.lt_of_lt_of_le (h1 h0).2 e.size⟩, fun i hi => e.cell' (h2 i hi) (h1 (by omega)).2⟩
theorem OwnB.row {w : World} {B E : Nat} {v : Value} {l : List Bool} (h : OwnB w B E v l) (hl : 0 < l.length) :
    ∃ g cap, v = .slice (some ⟨g, 0, none⟩) l.length cap ∧ B ≤ g ∧ g < w.heap.size ∧ (∀ i, i < l.length → w.cell? ⟨g, i, none⟩ = some (.bool (nthB l i))) ∧ ∀ i, w.frozen? ⟨g, i, none⟩ = false := by
  have h' := h
  rcases h'.2 with ⟨_, h0⟩ | ⟨g, cap, cur, rfl, hB, hg, _⟩
  · omega
  · refine ⟨g, cap, rfl, hB, (Array.getElem?_eq_some_iff.1 hg).1, fun i hi => ?_, fun i => World.ownsRow.frozenAt h i⟩
    rw [World.ownsRow.cellAt h i (by omega), mapB_get l i hi]
theorem OwnB.shape {w : World} {B E : Nat} {v : Value} {l : List Bool} (h : OwnB w B E v l) : ∃ a cap, v = .slice a l.length cap ∧ BoolsAt w a l := by
  by_cases hl : 0 < l.length
  · obtain ⟨g, cap, rfl, _, hg, hc, _⟩ := h.row hl
    exact ⟨_, cap, rfl, g, 0, fun _ => ⟨rfl, hg⟩, fun i hi => by rw [Nat.zero_add]; exact hc i hi⟩
  · rcases h.2 with ⟨rfl, h0⟩ | ⟨g, cap, cur, rfl, _⟩
    · exact ⟨none, 0, by rw [h0], 0, 0, fun h => absurd h hl, fun i hi => absurd hi (by omega)⟩
    · exact ⟨_, cap, rfl, 0, 0, fun h => absurd h hl, fun i hi => absurd hi (by omega)⟩
theorem OwnB.bools {w : World} {B E : Nat} {a : Option Addr} {n cap : Nat} {l : List Bool} (h : OwnB w B E (.slice a n cap) l) : BoolsAt w a l := by
  obtain ⟨a', cap', hv, hi⟩ := h.shape
  obtain ⟨rfl, _, _⟩ : a = a' ∧ n = l.length ∧ cap = cap' := by simpa using hv
  exact hi
theorem OwnB.ext {w w' : World} {B E : Nat} {v : Value} {l : List Bool} (h : OwnB w B E v l) (e : Ext w w') : OwnB w' B E v l := own_ext h e
theorem OwnB.mono {w : World} {B B' E : Nat} {v : Value} {l : List Bool} (h : OwnB w B E v l) (hB : B' ≤ B) : OwnB w B' E v l := own_mono h hB
theorem OwnB.kept {w w' : World} {B E : Nat} {v : Value} {l : List Bool} {row : Option Nat} (h : OwnB w B E v l) (hg : w.grownBy w' row) (hne : v.ownBlock = none ∨ v.ownBlock ≠ row) : OwnB w' B E v l := World.ownsRow.kept h hg hne
theorem OwnB.set {w : World} {B E g n cap : Nat} {l : List Bool} (h : OwnB w B E (.slice (some ⟨g, 0, none⟩) n cap) l) (hn : n = l.length) (k : Nat) (u : Bool) :
    OwnB (w.setCell ⟨g, k, none⟩ (.bool u)) B E (.slice (some ⟨g, 0, none⟩) n cap) (l.set k u) ∧ w.grownBy (w.setCell ⟨g, k, none⟩ (.bool u)) (some g) := by
  subst hn
  have := World.ownsRow.stored h k (.bool u)
  unfold OwnB
  rw [List.map_set, List.length_set]
  exact this
theorem OwnB.grown {w0 w w' : World} {E : Nat} {v : Value} {l : List Bool} (h : OwnB w w0.heap.size E v l) (hx : Ext w0 w) (hg : w.grownBy w' v.ownBlock) : Ext w0 w' :=
  Below.grown hx hg hx.size fun k hk => (World.ownsRow.lt h k hk).1
theorem OwnB.nil (w : World) (B E : Nat) : OwnB w B E (.slice none 0 0) [] := ⟨rfl, .inl ⟨rfl, rfl⟩⟩
theorem OwnB.empty (w : World) (E : Nat) : OwnB (w.alloc (.cells #[] E)) w.heap.size E (.slice (some ⟨w.heap.size, 0, none⟩) 0 0) [] :=
  World.ownsRow_made w #[] 0 (Nat.le_refl _) (by unfold maxLen; omega) rfl
def RetB (E : Nat) (w : World) (l : List Bool) (e : Ending) (w' : World) : Prop := ∃ v, e = .returned v ∧ OwnB w' w.heap.size E v l ∧ Ext w w'
theorem want_make_bool {P : Program} (w : World) {ops : Array Oper} {rest : List Oper} {o : Oper} {a : Act} {Q : Exit → Act → World → Prop} (hw : Region.wanted o (yielded ops a.tmps) = true) (l c : Operand) (t : TypeId) (hop : o.op = Op.makeSlice t l c)
    (B E : Nat) (ht : P.underlying t = some (.slice E)) (hinfo : (P.info? E).map (fun i => (i.zero, i.size, i.bytes)) = some (some (.bool false), 1, 1)) (kl kc : IntKind) (n : Nat) (hl : a.eval l = .int kl n) (hc : a.eval c = .int kc n)
    (hn : n ≤ 1099511627776) (hB : B ≤ w.heap.size)
    (hK : ∀ w', OwnB w' B E (.slice (some ⟨w.heap.size, 0, none⟩) n n) (List.replicate n false) → w.grownBy w' none → wpList P ops Q rest (a.put o.dst (.slice (some ⟨w.heap.size, 0, none⟩) n n)) w') :
    wpList P ops Q (o :: rest) a w := by
  obtain ⟨i, hi, hz0, hz1, hz2⟩ := info_parts hinfo
  refine BigFrame.wpList_want hw fun K hK' => ?_
  obtain ⟨w', hrun, r1, r2⟩ := run_make_full (P := P) w B t E i (.bool false) 1 ht hi hz0 hz1 kl kc n (by rw [hz2]; omega) (by unfold maxLen; omega) hB
  unfold Oper.wp
  simp [execOp, hop, hl, hc, hrun, Result.andThen]
  refine hK' _ _ (hK w' ?_ r2)
  unfold OwnB
  have e : (madeCells (Value.bool false).cells (n * 1)).toList = (List.replicate n false).map Value.bool := by
    simp only [madeCells, Value.cells, Nat.mul_one, List.map_replicate]
    apply List.ext_getElem?
    intro i
    by_cases hi : i < n <;> simp [hi, Nat.mod_one]
  rw [List.length_replicate, ← e]
  exact r1
theorem OwnI.pop {w : World} {B E cap n : Nat} {a : Option Addr} {l : List Int} {x : Int} (h : OwnI w B E (.slice a n cap) (l ++ [x])) : OwnI w B E (.slice a l.length cap) l := by
  have hn := h.len
  rw [List.length_append, List.length_singleton] at hn
  rcases h.2 with ⟨_, h0⟩ | ⟨g, cap', cur, hv, hB, hg, hnc, hcm, hcs, htk⟩
  · simp at h0
  · obtain ⟨rfl, _, rfl⟩ : a = some ⟨g, 0, none⟩ ∧ n = (l ++ [x]).length ∧ cap = cap' := by simpa using hv
    refine ⟨by simp, .inr ⟨g, cap, cur, rfl, hB, hg, by rw [List.length_append] at hnc; omega, hcm, hcs, ?_⟩⟩
    have e : cur.toList.take (l.length * 1) = (cur.toList.take ((l ++ [x]).length * 1)).take (l.length * 1) := by
      rw [List.take_take]
      congr 1
      rw [List.length_append]; omega
    rw [e, htk, List.map_append, Nat.mul_one]
    rw [List.take_append_of_le_length (by simp)]
    rw [List.take_of_length_le (by simp)]
/-! ### marks of truths -/
def marksB (k n : Nat) : List Bool := (List.range n).map fun i => (k + i) % 3 == 0
theorem marksB_length (k n : Nat) : (marksB k n).length = n := by simp [marksB]
theorem marksB_get (k n i : Nat) (h : i < n) : nthB (marksB k n) i = ((k + i) % 3 == 0) := by
  rw [nthB_getElem _ _ (by rw [marksB_length]; exact h)]; simp [marksB]
def markBTo (l : List Bool) (k j : Nat) : List Bool := marksB k j ++ l.drop j
theorem markBTo_length (l : List Bool) (k j : Nat) (h : j ≤ l.length) : (markBTo l k j).length = l.length := by
  simp only [markBTo, List.length_append, marksB_length, List.length_drop]; omega
theorem markBTo_zero (l : List Bool) (k : Nat) : markBTo l k 0 = l := by simp [markBTo, marksB]
theorem markBTo_end (l : List Bool) (k : Nat) : markBTo l k l.length = marksB k l.length := by simp [markBTo]
theorem markBTo_set (l : List Bool) (k j : Nat) (h : j < l.length) : (markBTo l k j).set j ((k + j) % 3 == 0) = markBTo l k (j + 1) := by
  have e : l.drop j = l[j] :: l.drop (j + 1) := List.drop_eq_getElem_cons h
  have em : marksB k (j + 1) = marksB k j ++ [(k + j) % 3 == 0] := by simp [marksB, List.range_succ]
  rw [markBTo, markBTo, e, em, List.set_append_right _ _ (by rw [marksB_length]; omega), marksB_length, Nat.sub_self, List.set_cons_zero, List.append_assoc]
  rfl
/-! ### the reference's rounds -/
def Closed (n : Nat) (L : List Int) (b : List Bool) : Prop := ∀ i, i < n → closedAt L b i
def stepB1 (L : List Int) (b : List Bool) (k : Nat) : List Bool := if nthB b k = true ∧ kd L k < 2 then b.set (k + 1) true else b
def stepB (L : List Int) (b : List Bool) (k : Nat) : List Bool := if nthB (stepB1 L b k) k = true ∧ (kd L k = 1 ∨ kd L k = 2) then (stepB1 L b k).set (tg L k).toNat true else stepB1 L b k
theorem stepB_off {L : List Int} {b : List Bool} {k : Nat} (h : nthB b k = false) : stepB L b k = b := by
  have e : stepB1 L b k = b := by unfold stepB1; rw [if_neg (by rw [h]; simp)]
  unfold stepB; rw [e, if_neg (by rw [h]; simp)]
theorem stepB_0 {L : List Int} {b : List Bool} {k : Nat} (h : nthB b k = true) (hk : kd L k = 0) : stepB L b k = b.set (k + 1) true := by
  have e : stepB1 L b k = b.set (k + 1) true := by unfold stepB1; rw [if_pos ⟨h, by omega⟩]
  unfold stepB; rw [e, if_neg (by omega)]
theorem stepB_1 {L : List Int} {b : List Bool} {k : Nat} (hl : k < b.length) (h : nthB b k = true) (hk : kd L k = 1) : stepB L b k = (b.set (k + 1) true).set (tg L k).toNat true := by
  have e : stepB1 L b k = b.set (k + 1) true := by unfold stepB1; rw [if_pos ⟨h, by omega⟩]
  unfold stepB; rw [e, if_pos ⟨by rw [nthB_set b _ _ _ hl, if_neg (by omega)]; exact h, .inl hk⟩]
theorem stepB_2 {L : List Int} {b : List Bool} {k : Nat} (h : nthB b k = true) (hk : kd L k = 2) : stepB L b k = b.set (tg L k).toNat true := by
  have e : stepB1 L b k = b := by unfold stepB1; rw [if_neg (by omega)]
  unfold stepB; rw [e, if_pos ⟨h, .inr hk⟩]
theorem stepB_3 {L : List Int} {b : List Bool} {k : Nat} (hk : kd L k = 3) : stepB L b k = b := by
  have e : stepB1 L b k = b := by unfold stepB1; rw [if_neg (by omega)]
  unfold stepB; rw [e, if_neg (by omega)]
structure Inn (n : Nat) (L : List Int) (b0 b : List Bool) : Prop where
  len : b.length = n
  zero : nthB b 0 = true
  sound : ∀ i, i < n → nthB b i = true → Reach L i
  fixed : Closed n L b0 → b = b0
  cle : cnt b0 ≤ cnt b
  cne : b ≠ b0 → cnt b0 + 1 ≤ cnt b
theorem set_same (b : List Bool) (p : Nat) (h : p < b.length) (ht : nthB b p = true) : b.set p true = b := by
  apply ext_nthB
  · rw [List.length_set]
  · intro j hj
    rw [List.length_set] at hj
    rw [nthB_set b p j true hj]
    split
    · rename_i e; subst e; exact ht.symm
    · rfl
theorem Inn.put {n : Nat} {L : List Int} {b0 b : List Bool} (h : Inn n L b0 b) {p : Nat} (hp : p < n) (hr : Reach L p) (hc : Closed n L b0 → nthB b p = true) : Inn n L b0 (b.set p true) := by
  have hl := h.len
  by_cases hb : nthB b p = true
  · rw [set_same b p (by omega) hb]; exact h
  · have hf : nthB b p = false := by simpa using hb
    have hcs := cnt_set b p (by omega) hf
    refine ⟨by rw [List.length_set]; exact hl, ?_, fun i hi ht => ?_, fun hcl => absurd (hc hcl) hb, by have := h.cle; omega, fun _ => by have := h.cle; omega⟩
    · rw [nthB_set b p 0 true (by omega)]; split
      · rfl
      · exact h.zero
    · rw [nthB_set b p i true (by omega)] at ht
      split at ht
      · rename_i e; subst e; exact hr
      · exact h.sound i hi ht
theorem Inn.start {n : Nat} {L : List Int} {b : List Bool} (hl : b.length = n) (h0 : nthB b 0 = true) (hs : ∀ i, i < n → nthB b i = true → Reach L i) : Inn n L b b :=
  ⟨hl, h0, hs, fun _ => rfl, Nat.le_refl _, fun h => absurd rfl h⟩
theorem next_lt {n : Nat} {L : List Int} (hcv : cvB n L = true) {k : Nat} (hk : k < n) (hkd : kd L k < 2) : k + 1 < n := by
  obtain ⟨h1, h40, hlast, hall⟩ := cvB_bounds hcv
  rcases Nat.lt_or_ge (k + 1) n with h | h
  · exact h
  · have : k = n - 1 := by omega
    subst this; omega
theorem Inn.step1 {n : Nat} {L : List Int} (hcv : cvB n L = true) {b0 b : List Bool} (h : Inn n L b0 b) {k : Nat} (hk : k < n) : Inn n L b0 (stepB1 L b k) ∧ cnt b ≤ cnt (stepB1 L b k) := by
  unfold stepB1
  by_cases hc : nthB b k = true ∧ kd L k < 2
  · rw [if_pos hc]
    have hlt := next_lt hcv hk hc.2
    refine ⟨h.put hlt (Reach.fall k (h.sound k hk hc.1) hc.2) (fun hcl => ?_), ?_⟩
    · have e := h.fixed hcl
      rw [e] at hc ⊢
      exact (hcl k hk hc.1).1 hc.2
    · by_cases hb : nthB b (k + 1) = true
      · rw [set_same b _ (by have := h.len; omega) hb]; exact Nat.le_refl _
      · rw [cnt_set b _ (by have := h.len; omega) (by simpa using hb)]; omega
  · rw [if_neg hc]; exact ⟨h, Nat.le_refl _⟩
theorem Inn.step {n : Nat} {L : List Int} (hcv : cvB n L = true) {b0 b : List Bool} (h : Inn n L b0 b) {k : Nat} (hk : k < n) (hp : b = b0 → ∀ j, j < k → closedAt L b0 j) :
    Inn n L b0 (stepB L b k) ∧ (stepB L b k = b0 → ∀ j, j < k + 1 → closedAt L b0 j) := by
  obtain ⟨h1, hc1⟩ := h.step1 hcv hk
  obtain ⟨-, h40, hlast, hall⟩ := cvB_bounds hcv
  have h2 : Inn n L b0 (stepB L b k) ∧ cnt (stepB1 L b k) ≤ cnt (stepB L b k) := by
    unfold stepB
    by_cases hc : nthB (stepB1 L b k) k = true ∧ (kd L k = 1 ∨ kd L k = 2)
    · rw [if_pos hc]
      have hlt := insB_goes (hall k hk) hc.2
      refine ⟨h1.put (by omega) (Reach.goto k (h1.sound k hk hc.1) hc.2) (fun hcl => ?_), ?_⟩
      · have e := h1.fixed hcl
        rw [e] at hc ⊢
        exact (hcl k hk hc.1).2 hc.2
      · by_cases hb : nthB (stepB1 L b k) (tg L k).toNat = true
        · rw [set_same _ _ (by have := h1.len; omega) hb]; exact Nat.le_refl _
        · rw [cnt_set _ _ (by have := h1.len; omega) (by simpa using hb)]; omega
    · rw [if_neg hc]; exact ⟨h1, Nat.le_refl _⟩
  refine ⟨h2.1, fun he => ?_⟩
  have hb1 : stepB1 L b k = b0 := by
    apply Decidable.byContradiction; intro hn
    have := h1.cne hn
    have := h2.2
    rw [he] at this; omega
  have hb : b = b0 := by
    apply Decidable.byContradiction; intro hn
    have := h.cne hn
    rw [hb1] at hc1; omega
  intro j hj
  by_cases hjk : j < k
  · exact hp hb j hjk
  · obtain rfl : j = k := by omega
    subst hb
    intro ht
    refine ⟨fun h2' => ?_, fun h2' => ?_⟩
    · have e : stepB1 L b j = b.set (j + 1) true := by unfold stepB1; rw [if_pos ⟨ht, h2'⟩]
      have hlt := next_lt hcv hk h2'
      rw [← hb1, e, nthB_set b _ _ _ (by have := h.len; omega), if_pos rfl]
    · have e : stepB L b j = b.set (tg L j).toNat true := by unfold stepB; rw [hb1, if_pos ⟨ht, h2'⟩]
      have hlt := insB_goes (hall j hk) h2'
      rw [← he, e, nthB_set b _ _ _ (by have := h.len; omega), if_pos rfl]
theorem Inn.round {n : Nat} {L : List Int} {b0 b : List Bool} (h : Inn n L b0 b) (hp : b = b0 → ∀ j, j < n → closedAt L b0 j) {m : Nat} (hm : Closed n L b0 ∨ m + 1 ≤ cnt b0) : Closed n L b ∨ m + 2 ≤ cnt b := by
  by_cases hb : b = b0
  · left; rw [hb]; exact hp hb
  · rcases hm with hm | hm
    · exact absurd (h.fixed hm) hb
    · right; have := h.cne hb; omega
/-! ### the program's search -/
structure Dfs (n : Nat) (L : List Int) (b : List Bool) (l : List Int) : Prop where
  len : b.length = n
  sound : ∀ i, i < n → nthB b i = true → Reach L i
  items : ∀ x, x ∈ l → 0 ≤ x ∧ x < n ∧ Reach L x.toNat
  zero : nthB b 0 = true ∨ (0 : Int) ∈ l
  fr : ∀ i, i < n → nthB b i = true → (kd L i < 2 → nthB b (i + 1) = true ∨ (((i + 1 : Nat) : Int)) ∈ l) ∧ ((kd L i = 1 ∨ kd L i = 2) → nthB b (tg L i).toNat = true ∨ tg L i ∈ l)
  size : l.length + 3 * (n - cnt b) ≤ 3 * n + 1
theorem Dfs.skip {n : Nat} {L : List Int} {b : List Bool} {l : List Int} {p : Nat} (h : Dfs n L b (l ++ [(p : Int)])) (hb : nthB b p = true) : Dfs n L b l := by
  have key : ∀ (q : Nat) (x : Int), x = (q : Int) → (nthB b q = true ∨ x ∈ l ++ [(p : Int)]) → (nthB b q = true ∨ x ∈ l) := fun q x hx hor => by
    rcases hor with hor | hor
    · exact .inl hor
    · rcases List.mem_append.1 hor with hor | hor
      · exact .inr hor
      · have : x = (p : Int) := by simpa using hor
        have : q = p := by omega
        subst this; exact .inl hb
  refine ⟨h.len, h.sound, fun x hx => h.items x (List.mem_append_left _ hx), key 0 0 rfl h.zero, fun i hi ht => ?_, by have := h.size; simp at this; omega⟩
  obtain ⟨f1, f2⟩ := h.fr i hi ht
  refine ⟨fun hk => key _ _ rfl (f1 hk), fun hk => ?_⟩
  rcases f2 hk with f | f
  · exact .inl f
  · have h0 := (h.items _ f).1
    exact key _ _ (Int.toNat_of_nonneg h0).symm (.inr f)
/-- What is to be done behind an instruction. -/
def moreOf (L : List Int) (p : Nat) : List Int := (if kd L p = 0 ∨ kd L p = 1 then [((p + 1 : Nat) : Int)] else []) ++ (if kd L p = 1 ∨ kd L p = 2 then [tg L p] else [])
theorem moreOf_length (L : List Int) (p : Nat) : (moreOf L p).length ≤ 2 := by
  unfold moreOf
  rw [List.length_append]
  split <;> split <;> simp
theorem Dfs.visit {n : Nat} {L : List Int} (hcv : cvB n L = true) {b : List Bool} {l : List Int} {p : Nat} (h : Dfs n L b (l ++ [(p : Int)])) (hb : nthB b p = false) : Dfs n L (b.set p true) (l ++ moreOf L p) := by
  obtain ⟨-, h40, hlast, hall⟩ := cvB_bounds hcv
  have hl := h.len
  obtain ⟨-, hpn, hrp⟩ := h.items (p : Int) (by simp)
  rw [Int.toNat_natCast] at hrp
  have hp : p < n := by omega
  have hkp := insB_kind (hall p hp)
  have hset : ∀ i, i < n → nthB (b.set p true) i = if p = i then true else nthB b i := fun i hi => nthB_set b p i true (by omega)
  have hcs := cnt_set b p (by omega) hb
  have hcl : cnt b + 1 ≤ n := by have := cnt_le (b.set p true); rw [List.length_set] at this; omega
  have key : ∀ (q : Nat) (x : Int), q < n → x = (q : Int) → (nthB b q = true ∨ x ∈ l ++ [(p : Int)]) → (nthB (b.set p true) q = true ∨ x ∈ l ++ moreOf L p) := fun q x hq hx hor => by
    rw [hset q hq]
    by_cases e : p = q
    · rw [if_pos e]; exact .inl rfl
    · rw [if_neg e]
      rcases hor with hor | hor
      · exact .inl hor
      · rcases List.mem_append.1 hor with hor | hor
        · exact .inr (List.mem_append_left _ hor)
        · have : x = (p : Int) := by simpa using hor
          exact absurd (by omega) e
  refine ⟨by rw [List.length_set]; exact hl, fun i hi ht => ?_, fun x hx => ?_, ?_, fun i hi ht => ?_, ?_⟩
  · rw [hset i hi] at ht
    split at ht
    · rename_i e; subst e; exact hrp
    · exact h.sound i hi ht
  · rcases List.mem_append.1 hx with hx | hx
    · exact h.items x (List.mem_append_left _ hx)
    · unfold moreOf at hx
      rcases List.mem_append.1 hx with hx | hx
      · split at hx
        · rename_i hk
          have : x = ((p + 1 : Nat) : Int) := by simpa using hx
          subst this
          have hlt := next_lt hcv hp (by omega)
          exact ⟨by omega, by omega, by rw [Int.toNat_natCast]; exact Reach.fall p hrp (by omega)⟩
        · simp at hx
      · split at hx
        · rename_i hk
          have : x = tg L p := by simpa using hx
          subst this
          have hlt := insB_goes (hall p hp) hk
          exact ⟨hlt.1, hlt.2, Reach.goto p hrp hk⟩
        · simp at hx
  · exact key 0 0 (by omega) rfl h.zero
  · by_cases e : p = i
    · subst e
      refine ⟨fun hk => .inr (List.mem_append_right _ ?_), fun hk => .inr (List.mem_append_right _ ?_)⟩
      · unfold moreOf
        rw [if_pos (by omega)]
        simp
      · unfold moreOf
        refine List.mem_append_right _ ?_
        rw [if_pos hk]; simp
    · rw [hset i hi, if_neg e] at ht
      obtain ⟨f1, f2⟩ := h.fr i hi ht
      refine ⟨fun hk => key _ _ (next_lt hcv hi hk) rfl (f1 hk), fun hk => ?_⟩
      have hg := insB_goes (hall i hi) hk
      exact key _ _ (by omega) (Int.toNat_of_nonneg hg.1).symm (f2 hk)
  · have h1 := h.size
    have h2 := moreOf_length L p
    rw [List.length_append, List.length_singleton] at h1
    rw [List.length_append, hcs]
    omega
theorem Dfs.done {n : Nat} {L : List Int} (hcv : cvB n L = true) {b : List Bool} (h : Dfs n L b []) : b = reachL n L := by
  refine reach_is hcv h.len (by rcases h.zero with h0 | h0; exact h0; simp at h0) h.sound fun i hi ht => ?_
  obtain ⟨f1, f2⟩ := h.fr i hi ht
  exact ⟨fun hk => by rcases f1 hk with f | f; exact f; simp at f, fun hk => by rcases f2 hk with f | f; exact f; simp at f⟩
theorem nthB_replicate (n i : Nat) : nthB (List.replicate n false) i = false := by
  unfold nthB
  rw [List.getD_eq_getElem?_getD, List.getElem?_replicate]
  split <;> rfl
theorem cnt_replicate (n : Nat) : cnt (List.replicate n false) = 0 := by
  unfold cnt
  rw [List.countP_replicate]; simp
theorem Dfs.start {n : Nat} (L : List Int) (hn : 1 ≤ n) : Dfs n L (List.replicate n false) [0] := by
  refine ⟨by simp, fun i _ h => ?_, fun x hx => ?_, .inr (by simp), fun i _ h => ?_, by rw [cnt_replicate]; simp; try omega⟩
  · rw [nthB_replicate] at h; cases h
  · have : x = 0 := by simpa using hx
    subst this
    exact ⟨by omega, by omega, Reach.start⟩
  · rw [nthB_replicate] at h; cases h
end Go.Kt
