/- Merged texts: contracts and plain lemmas (Av). -/
import Derived.Test.YtlaamecfknkmlaaGreatGr2
import Derived.Test.YtlaamecfknkmlaaGreatGrYm
/- Plain law and memory: places of parts in a list; an append beside a tree and beside another list. -/
namespace Go.Kt
set_option linter.unusedVariables false
open Go.Proofs.YtlaamecfknkmlaaGreat

/-- The place of a part. -/
def plcN (L : List (List Int)) (q : List Int) : Nat := L.findIdx fun x => decide (q = x)
theorem plc_findR (L : List (List Int)) (q : List Int) : findR (fun x => decide (q = x)) L = if q ∈ L then ((plcN L q : Nat) : Int) else -1 := by
  have h : (L.any fun x => decide (q = x)) = decide (q ∈ L) := by
    rw [Bool.eq_iff_iff, List.any_eq_true, decide_eq_true_eq]
    constructor
    · rintro ⟨x, hx, he⟩; rw [decide_eq_true_eq] at he; subst he; exact hx
    · intro hx; exact ⟨q, hx, by simp⟩
  unfold findR plcN
  rw [h]
  by_cases hq : q ∈ L
  · simp [hq]
  · simp [hq]
theorem plc_neg (L : List (List Int)) (q : List Int) : decide (findR (fun x => decide (q = x)) L < 0) = decide (q ∉ L) := by
  rw [plc_findR]
  by_cases hq : q ∈ L
  · rw [if_pos hq]; simp [hq]
  · rw [if_neg hq]; simp [hq]
theorem plc_lt {L : List (List Int)} {q : List Int} (h : q ∈ L) : plcN L q < L.length := by
  unfold plcN
  exact List.findIdx_lt_length_of_exists ⟨q, h, by simp⟩
theorem plc_row {L : List (List Int)} {q : List Int} (h : q ∈ L) : rowI L (plcN L q) = q := by
  have hl := plc_lt h
  have := List.findIdx_getElem (p := fun x => decide (q = x)) (xs := L) (w := hl)
  rw [rowI_getElem _ _ hl]
  exact (of_decide_eq_true this).symm
theorem row_inj {L : List (List Int)} (hn : L.Nodup) {i j : Nat} (hi : i < L.length) (hj : j < L.length) (h : rowI L i = rowI L j) : i = j := by
  rw [rowI_getElem _ _ hi, rowI_getElem _ _ hj] at h
  have hp := List.pairwise_iff_getElem.1 hn
  rcases Nat.lt_trichotomy i j with hlt | rfl | hlt
  · exact absurd h (hp i j hi hj hlt)
  · rfl
  · exact absurd h.symm (hp j i hj hi hlt)
/-- The set of the places of the first so many parts. -/
def orPn (L ps : List (List Int)) : Nat → Nat
  | 0 => 0
  | j + 1 => orN (orPn L ps j) (pow2 (plcN L (rowI ps j)))
theorem testBit_orPn (L ps : List (List Int)) (i : Nat) : ∀ j, (orPn L ps j).testBit i = true ↔ ∃ k, k < j ∧ plcN L (rowI ps k) = i
  | 0 => by simp [orPn]
  | j + 1 => by
    unfold orPn
    rw [testBit_orN, Bool.or_eq_true, testBit_orPn L ps i j, testBit_pow2, decide_eq_true_eq]
    constructor
    · rintro (⟨k, h1, h2⟩ | h)
      · exact ⟨k, by omega, h2⟩
      · exact ⟨j, by omega, h⟩
    · rintro ⟨k, h1, h2⟩
      by_cases e : k = j
      · subst e; exact .inr h2
      · exact .inl ⟨k, by omega, h2⟩
theorem orPn_all {L ps : List (List Int)} (hn : L.Nodup) (h : ∀ q, q ∈ ps → q ∈ L) : orPn L ps ps.length = idxN L ps L.length := by
  refine bits_eq fun i => ?_
  rw [testBit_orPn, testBit_idxN]
  constructor
  · rintro ⟨k, hk, rfl⟩
    have hm : rowI ps k ∈ ps := by rw [rowI_getElem _ _ hk]; exact List.getElem_mem hk
    exact ⟨plc_lt (h _ hm), by rw [plc_row (h _ hm)]; exact hm⟩
  · rintro ⟨hi, hm⟩
    obtain ⟨k, hk, he⟩ := List.mem_iff_getElem.1 hm
    refine ⟨k, hk, ?_⟩
    have hr : rowI ps k = rowI L i := by rw [rowI_getElem _ _ hk]; exact he
    rw [hr]
    exact row_inj hn (plc_lt (h _ hm)) hi (plc_row (h _ hm))
theorem orPn_lt {L ps : List (List Int)} (h : ∀ q, q ∈ ps → q ∈ L) (hl : L.length ≤ 10) : ∀ j, j ≤ ps.length → orPn L ps j < 1024
  | 0, _ => by simp [orPn]
  | j + 1, hj => by
    have ih := orPn_lt h hl j (by omega)
    have hm : rowI ps j ∈ ps := by rw [rowI_getElem _ _ (by omega)]; exact List.getElem_mem (by omega)
    have hp := plc_lt (h _ hm)
    unfold orPn orN pow2
    refine Nat.or_lt_two_pow (n := 10) ih ?_
    exact Nat.pow_lt_pow_right (by decide) (by omega)
theorem addL_left {t : Kt} {out : List (List Int)} (ho : ∀ y, y ∈ out → Left t y) : ∀ {ps : List (List Int)}, (∀ y, y ∈ ps → Left t y) → ∀ y, y ∈ addL out ps → Left t y := fun hp y hy => by
  rcases (mem_addL _ _ _).1 hy with h | h
  · exact ho y h
  · exact hp y h
theorem movL_left' {t : Kt} (hg : t.Good) {x y : List Int} {m : Nat} (hx : Left t x) (hy : y ∈ movL x m) : Left t y := by
  obtain ⟨q, hq, rfl⟩ := movL_left hg hx hy
  exact ⟨q, pd_good t hg q hq, rfl, .inr hq⟩
theorem left_len {t : Kt} (hg : t.Good) (hw : t.words.length ≤ 40) {A : List (List Int)} (hn : A.Nodup) (h : ∀ y, y ∈ A → Left t y) : A.length ≤ 41 := by
  have h1 := nodup_len (L := (t :: t.pd).map Kt.words) hn fun x hx => by
    obtain ⟨q, hq, rfl, h⟩ := h x hx
    rcases h with rfl | h
    · exact List.mem_map.2 ⟨_, by simp, rfl⟩
    · exact List.mem_map.2 ⟨q, by simp [h], rfl⟩
  have h2 := pd_length t
  have h3 := acts_le t
  simp only [List.length_map, List.length_cons] at h1
  omega
theorem addM_left {t : Kt} (hg : t.Good) {out : List (List Int)} {x : List Int} (ho : ∀ y, y ∈ out → Left t y) (hx : Left t x) (m : Nat) : ∀ y, y ∈ addM out x m → Left t y := fun y hy => by
  rcases (mem_addM _ _ _ _).1 hy with h | ⟨j, -, h⟩
  · exact ho y h
  · exact movL_left' hg hx h
/-- At most 41 parts on the way. -/
theorem way_len {t : Kt} (hg : t.Good) (hw : t.words.length ≤ 40) {out : List (List Int)} {x : List Int} (hn : out.Nodup) (ho : ∀ y, y ∈ out → Left t y) (hx : Left t x) (m j : Nat) : (addL (addM out x m) ((movL x m).take j)).length ≤ 41 :=
  left_len hg hw (nodup_addL _ _ (nodup_addM _ _ hn _)) (addL_left (addM_left hg ho hx m) fun y hy => movL_left' hg hx (List.mem_of_mem_take hy))
theorem movL_row {t : Kt} (hg : t.Good) (hw : t.words.length ≤ 40) {x y : List Int} {m : Nat} (hx : Left t x) (hy : y ∈ movL x m) : 1 ≤ y.length ∧ y.length ≤ 1640 := by
  obtain ⟨q, h1, rfl, h2⟩ := movL_left' hg hx hy
  have := left_bnd hw h2
  have := q.words_pos
  omega
/-! ### memory -/
/-- A tree does not lie in a block that begins with a slice. -/
theorem TreeAt.apart {w : World} {r c n : Nat} {a : Option Addr} (hr : w.cell? ⟨r, 0, none⟩ = some (.slice a n c)) : ∀ (t : Kt) (g : Nat), TreeAt w (fun _ => False) t g → TreeAt w (fun k => k = r) t g
  | .leaf x, g, h => by
    unfold TreeAt at h ⊢
    obtain ⟨-, h2⟩ := h
    refine ⟨fun e => ?_, h2⟩
    subst e
    rw [hr] at h2
    simp at h2
  | .star t, g, h => by
    unfold TreeAt at h ⊢
    obtain ⟨-, h2, hh, hc, ga, h3, -, h4, h5⟩ := h
    refine ⟨fun e => ?_, h2, hh, hc, ga, h3, fun e => ?_, h4, TreeAt.apart hr t ga h5⟩
    · subst e; rw [hr] at h2; simp at h2
    · subst e; rw [hr] at h4; simp [ptrV] at h4
  | .two s t u, g, h => by
    unfold TreeAt at h ⊢
    obtain ⟨-, h2, hh, hc, ga, gb, h3, -, h4, h5, h6, h7⟩ := h
    refine ⟨fun e => ?_, h2, hh, hc, ga, gb, h3, fun e => ?_, h4, h5, TreeAt.apart hr t ga h6, TreeAt.apart hr u gb h7⟩
    · subst e; rw [hr] at h2; simp at h2
    · subst e; rw [hr] at h4; simp [ptrV] at h4
/-- A tree beside a list of lists. -/
theorem TreeAt.beside {w : World} {B : Nat} {E : Ek} {ER : Nat} {v : Value} {ll : List (List Int)} (h : OwnLs w B E ER v ll) (h0 : 0 < ll.length) {t : Kt} {g : Nat} (ht : TreeAt w (fun _ => False) t g) : TreeAt w (fun k => v.ownBlock = some k) t g := by
  obtain ⟨a, c, rfl⟩ := h.shape
  obtain ⟨r, rfl, -, -, -, hrows⟩ := h.row h0
  obtain ⟨ai, ci, r1, -, -⟩ := hrows 0 h0
  refine TreeAt.keep (fun k hk _ => rfl) (fun k _ hx => ?_) t g (TreeAt.apart r1 t g ht)
  simp [Value.ownBlock] at hx
  exact hx.symm
theorem TreeAt.pushed {w w' : World} {v v' : Value} {t : Kt} {g : Nat} (ht : TreeAt w (fun k => v.ownBlock = some k) t g) (hg : w.grownBy w' v.ownBlock) (hw : v'.ownBlock = v.ownBlock ∨ v'.ownBlock = some w.heap.size) : TreeAt w' (fun k => v'.ownBlock = some k) t g :=
  TreeAt.keep (fun k hk hx => hg.block k hk (fun e => hx e.symm)) (fun k hk hx => by
    rcases hw with h | h
    · rw [← h]; exact hx
    · rw [h] at hx; have := Option.some.inj hx; omega) t g ht
/-- Another list beside. -/
def Bes (v u : Value) : Prop := u.ownBlock = none ∨ u.ownBlock ≠ v.ownBlock
theorem Bes.pushed {w : World} {B : Nat} {E : Ek} {ER : Nat} {v v' u : Value} {ll : List (List Int)} (h : Bes v u) (hu : OwnLs w B E ER u ll) (hw : v'.ownBlock = v.ownBlock ∨ v'.ownBlock = some w.heap.size) : Bes v' u := by
  rcases h with h | h
  · exact .inl h
  · rcases hw with e | e
    · exact .inr (by rw [e]; exact h)
    · refine .inr fun e' => ?_
      have := hu.lt w.heap.size (by rw [e', e])
      omega
theorem Bes.of {w w' : World} {B : Nat} {E : Ek} {ER ER' : Nat} {E' : Ek} {v u : Value} {ll mm : List (List Int)} (hv : OwnLs w B E ER v ll) (hu : OwnLs w' w.heap.size E' ER' u mm) : Bes v u := by
  cases h : u.ownBlock with
  | none => exact .inl h
  | some k =>
    refine .inr fun e => ?_
    have h1 := hu.lt k h
    have h2 := hv.lt k (by rw [← e, h])
    omega
theorem OwnLs.beside {w w' : World} {B B' : Nat} {E : Ek} {ER : Nat} {v u : Value} {ll mm : List (List Int)} (hu : OwnLs w B' E ER u mm) (hv : OwnLs w B E ER v ll) (h : Bes v u) (hg : w.grownBy w' v.ownBlock) (hE : E.t ≠ ER) : OwnLs w' B' E ER u mm :=
  hu.kept hg hv.typed hE h
/-- append of one slice, and where the new block lies. -/
theorem any_append_lsA {P : Program} {ops : Array Oper} {rest : List Oper} {o : Oper} {a : Act} {Q : Exit → Act → World → Prop} {w : World} (hw : Region.wanted o (yielded ops a.tmps) = true) (s x : Operand) (t : TypeId)
    (ho : o.op = .call { callee := .builtin .append, args := #[s, x], argTypes := #[t, t] }) (B : Nat) (E : Ek) (ER : Nat) (hE : E.t ≠ ER) (ht : P.underlying t = some (.slice ER))
    (hinfo : (P.info? ER).map (fun i => (i.zero, i.size, i.bytes)) = some (some (.slice none 0 0), 1, 24))
    (v : Value) (ll : List (List Int)) (hs : a.eval s = v) (hown : OwnLs w B E ER v ll) (g : Nat) (al : Option Addr) (cl : Nat) (l : List Int) (hx : a.eval x = .slice (some ⟨g, 0, none⟩) 1 1) (hcell : w.cell? ⟨g, 0, none⟩ = some (.slice al l.length cl))
    (hi : IntsE w E al l) (hc : l.length ≤ cl) (hlen : ll.length + 1 ≤ 1099511627776) (hB : B ≤ w.heap.size)
    (h : ∀ v' w', OwnLs w' B E ER v' (ll ++ [l]) → w.grownBy w' v.ownBlock → (v'.ownBlock = v.ownBlock ∨ v'.ownBlock = some w.heap.size) → wpList P ops Q rest (a.put o.dst v') w') : wpList P ops Q (o :: rest) a w := by
  have hty := hown.typed
  obtain ⟨us, h1, h2⟩ := hown
  refine want_append_at hw s x t ho B ER (.slice none 0 0) 24 ht hinfo rfl (by decide) v ll.length us hs h1 g _ hx hcell rfl hlen hB
    fun v' w' h3 h4 h5 => h v' w' ⟨us ++ [.slice al l.length cl], ?_, ?_⟩ h4 h5
  · rw [List.length_append]; exact h3
  · exact (h2.append (RowsV.one hi hc)).kept h4 hty hE
end Go.Kt
