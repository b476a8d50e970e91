/- Merged texts: contracts and plain lemmas (Tr). -/
import Derived.Test.YtlaamecfknkmlaaGreatGu10
import Derived.Test.YtlaamecfknkmlaaGreatGu31
import Derived.Test.YtlaamecfknkmlaaGreatGu3
import Derived.Test.YtlaamecfknkmlaaGreatGu8
/- Plain law: expressions as trees in memory; a stack of trees of the call's own. No program in sight. -/
namespace Go.Kt
set_option linter.unusedVariables false
open Go.RowKit

def ptrV (g : Nat) : Value := .pointer (some ⟨g, 0, none⟩)
/-- The block g is the tree's; none of its blocks is one of X. -/
def TreeAt (w : World) (X : Nat → Prop) : Kt → Nat → Prop
  | .leaf s, g => ¬ X g ∧ w.cell? ⟨g, 0, none⟩ = some (.int .i64 s) ∧ w.cell? ⟨g, 1, none⟩ = some (.slice none 0 0)
  | .star a, g => ¬ X g ∧ w.cell? ⟨g, 0, none⟩ = some (.int .i64 21) ∧ ∃ h c ga, w.cell? ⟨g, 1, none⟩ = some (.slice (some ⟨h, 0, none⟩) 1 c) ∧ ¬ X h ∧ w.cell? ⟨h, 0, none⟩ = some (ptrV ga) ∧ TreeAt w X a ga
  | .two s a b, g => ¬ X g ∧ w.cell? ⟨g, 0, none⟩ = some (.int .i64 s) ∧ ∃ h c ga gb, w.cell? ⟨g, 1, none⟩ = some (.slice (some ⟨h, 0, none⟩) 2 c) ∧ ¬ X h ∧ w.cell? ⟨h, 0, none⟩ = some (ptrV ga) ∧ w.cell? ⟨h, 1, none⟩ = some (ptrV gb) ∧ TreeAt w X a ga ∧ TreeAt w X b gb
theorem TreeAt.keep {w w' : World} {X X' : Nat → Prop} (hb : ∀ k, k < w.heap.size → ¬ X k → w'.heap[k]? = w.heap[k]?) (hX : ∀ k, k < w.heap.size → X' k → X k) : ∀ (t : Kt) (g : Nat), TreeAt w X t g → TreeAt w' X' t g := by
  have cc : ∀ b o v, ¬ X b → w.cell? ⟨b, o, none⟩ = some v → w'.cell? ⟨b, o, none⟩ = some v := fun b o v hx hv =>
    (World.cell?_of_block (a := ⟨b, o, none⟩) (hb b (lt_of_cell hv) hx)).trans hv
  intro t
  induction t with
  | leaf s =>
    rintro g ⟨h0, h1, h2⟩
    exact ⟨fun h => h0 (hX g (lt_of_cell h1) h), cc _ _ _ h0 h1, cc _ _ _ h0 h2⟩
  | star a ih =>
    rintro g ⟨h0, h1, h, c, ga, h2, h3, h4, h5⟩
    exact ⟨fun k => h0 (hX g (lt_of_cell h1) k), cc _ _ _ h0 h1, h, c, ga, cc _ _ _ h0 h2, fun k => h3 (hX h (lt_of_cell h4) k), cc _ _ _ h3 h4, ih ga h5⟩
  | two s a b iha ihb =>
    rintro g ⟨h0, h1, h, c, ga, gb, h2, h3, h4, h5, h6, h7⟩
    exact ⟨fun k => h0 (hX g (lt_of_cell h1) k), cc _ _ _ h0 h1, h, c, ga, gb, cc _ _ _ h0 h2, fun k => h3 (hX h (lt_of_cell h4) k), cc _ _ _ h3 h4, cc _ _ _ h3 h5, iha ga h6, ihb gb h7⟩
theorem TreeAt.ext {w w' : World} {X : Nat → Prop} {t : Kt} {g : Nat} (h : TreeAt w X t g) (e : Ext w w') : TreeAt w' X t g := TreeAt.keep (fun k hk _ => e.block k hk) (fun k _ hx => hx) t g h
theorem TreeAt.lt {w : World} {X : Nat → Prop} {t : Kt} {g : Nat} (h : TreeAt w X t g) : g < w.heap.size := by
  cases t with
  | leaf s => exact lt_of_cell h.2.1
  | star a => exact lt_of_cell h.2.1
  | two s a b => exact lt_of_cell h.2.1
theorem TreeAt.free {w : World} {X : Nat → Prop} {t : Kt} {g : Nat} (h : TreeAt w X t g) : TreeAt w (fun _ => False) t g := TreeAt.keep (fun k hk _ => rfl) (fun k _ hx => hx.elim) t g h
/-- The step. -/
def Kt.top : Kt → Int
  | .leaf s => s
  | .star _ => 21
  | .two s _ _ => s
theorem TreeAt.top {w : World} {X : Nat → Prop} {t : Kt} {g : Nat} (h : TreeAt w X t g) : w.cell? ⟨g, 0, none⟩ = some (.int .i64 t.top) := by
  cases t with
  | leaf s => exact h.2.1
  | star a => exact h.2.1
  | two s a b => exact h.2.1

/-- A stack of trees of the call's own. -/
def StackT (w : World) (B E : Nat) (v : Value) (ts : List Kt) (gs : List Nat) : Prop :=
  w.ownsRow B E 1 v ts.length (gs.map ptrV) ∧ ∀ (i : Nat) (t : Kt) (g : Nat), ts[i]? = some t → gs[i]? = some g → TreeAt w (fun k => v.ownBlock = some k) t g
theorem StackT.len {w : World} {B E : Nat} {v : Value} {ts : List Kt} {gs : List Nat} (h : StackT w B E v ts gs) : gs.length = ts.length := by have := h.1.1; simpa using this
theorem StackT.ext {w w' : World} {B E : Nat} {v : Value} {ts : List Kt} {gs : List Nat} (h : StackT w B E v ts gs) (e : Ext w w') : StackT w' B E v ts gs :=
  ⟨own_ext h.1 e, fun i t g ht hg => (h.2 i t g ht hg).ext e⟩
theorem StackT.nil (w : World) (B E : Nat) : StackT w B E (.slice none 0 0) [] [] := ⟨⟨rfl, .inl ⟨rfl, rfl⟩⟩, fun i t g ht => by simp at ht⟩
theorem StackT.shape {w : World} {B E : Nat} {v : Value} {ts : List Kt} {gs : List Nat} (h : StackT w B E v ts gs) :
    ∃ a cap, v = .slice a ts.length cap ∧ ts.length ≤ cap ∧ (0 < ts.length → ∃ g, a = some ⟨g, 0, none⟩ ∧ B ≤ g ∧ g < w.heap.size) := by
  obtain ⟨a, cap, rfl⟩ := own_shapev h.1
  exact ⟨a, cap, rfl, own_capv h.1, fun hn => own_headv h.1 hn⟩
theorem StackT.parts {w : World} {B E : Nat} {v : Value} {ts : List Kt} {gs : List Nat} (h : StackT w B E v ts gs) :
    (v = .slice none 0 0 ∧ ts.length = 0) ∨ ∃ r cap, v = .slice (some ⟨r, 0, none⟩) ts.length cap ∧ ts.length ≤ cap ∧ B ≤ r ∧ r < w.heap.size := by
  rcases h.1.2 with ⟨hv, h0⟩ | ⟨g, cap, cur, rfl, hB, hg, hnc, _⟩
  · exact .inl ⟨hv, h0⟩
  · exact .inr ⟨g, cap, rfl, hnc, hB, (Array.getElem?_eq_some_iff.1 hg).1⟩
theorem StackT.cell {w : World} {B E cap r : Nat} {ts : List Kt} {gs : List Nat} (h : StackT w B E (.slice (some ⟨r, 0, none⟩) ts.length cap) ts gs) (i : Nat) (hi : i < ts.length) :
    ∃ g, gs[i]? = some g ∧ w.cell? ⟨r, i, none⟩ = some (ptrV g) := by
  have hl := h.len
  refine ⟨gs[i]'(by omega), List.getElem?_eq_getElem (by omega), ?_⟩
  rw [World.ownsRow.cellAt h.1 i (by omega), List.getElem?_map, List.getElem?_eq_getElem (by omega)]; rfl
theorem StackT.frz {w : World} {B E cap r : Nat} {ts : List Kt} {gs : List Nat} (h : StackT w B E (.slice (some ⟨r, 0, none⟩) ts.length cap) ts gs) (i : Nat) : w.frozen? ⟨r, i, none⟩ = false := World.ownsRow.frozenAt h.1 i
/-- The stack behind a push at the end. -/
theorem StackT.push {w w' : World} {B E : Nat} {v v' : Value} {ts : List Kt} {gs : List Nat} {t : Kt} {g : Nat} (h : StackT w B E v ts gs) (hg : w.grownBy w' v.ownBlock) (ho : w'.ownsRow B E 1 v' (ts.length + 1) (gs.map ptrV ++ [ptrV g]))
    (hw : v'.ownBlock = v.ownBlock ∨ v'.ownBlock = some w.heap.size) (ht : TreeAt w (fun k => v.ownBlock = some k) t g) : StackT w' B E v' (ts ++ [t]) (gs ++ [g]) := by
  have hl := h.len
  have hk : ∀ (t : Kt) (g : Nat), TreeAt w (fun k => v.ownBlock = some k) t g → TreeAt w' (fun k => v'.ownBlock = some k) t g :=
    TreeAt.keep (fun k hk hx => hg.block k hk (fun e => hx e.symm)) (fun k hk hx => by
      rcases hw with h | h
      · rw [← h]; exact hx
      · rw [h] at hx; have := Option.some.inj hx; omega)
  refine ⟨by rw [List.length_append, List.map_append]; exact ho, fun i u d hu hd => ?_⟩
  rcases Nat.lt_or_ge i ts.length with hi | hi
  · rw [List.getElem?_append_left hi] at hu
    rw [List.getElem?_append_left (by omega)] at hd
    exact hk _ _ (h.2 i u d hu hd)
  · rw [List.getElem?_append_right hi] at hu
    rw [List.getElem?_append_right (by omega)] at hd
    rw [hl] at hd
    by_cases hz : i - ts.length = 0
    · rw [hz] at hu hd
      simp at hu hd
      subst hu hd
      exact hk _ _ ht
    · rw [List.getElem?_eq_none (by simp; omega)] at hu; cases hu
/-- The stack behind the store of a tree in the place of some at the end. -/
theorem StackT.put {w : World} {B E r cap : Nat} {us vs : List Kt} {gs : List Nat} {p t : Kt} {g : Nat} (h : StackT w B E (.slice (some ⟨r, 0, none⟩) (us ++ p :: vs).length cap) (us ++ p :: vs) gs) (ht : TreeAt w (fun k => k = r) t g) :
    StackT (w.setCell ⟨r, us.length, none⟩ (ptrV g)) B E (.slice (some ⟨r, 0, none⟩) (us.length + 1) cap) (us ++ [t]) (gs.take us.length ++ [g]) := by
  have hl := h.len
  have hlen : us.length < gs.length := by rw [hl]; simp
  have h1 := (World.ownsRow.stored h.1 us.length (ptrV g)).1
  have h2 := own_trunc (k := us.length + 1) h1 (by simp)
  have hk : ∀ (t : Kt) (g' : Nat), TreeAt w (fun k => k = r) t g' → TreeAt (w.setCell ⟨r, us.length, none⟩ (ptrV g)) (fun k => (Value.slice (some ⟨r, 0, none⟩) (us.length + 1) cap).ownBlock = some k) t g' := by
    intro t g'
    refine TreeAt.keep (fun k hk hx => heap_setCell_other w ⟨r, us.length, none⟩ k _ hx) (fun k hk hx => ?_) t g'
    simp [Value.ownBlock] at hx
    exact hx.symm
  refine ⟨?_, fun i u d hu hd => ?_⟩
  · have e : List.map ptrV (gs.take us.length ++ [g]) = ((List.map ptrV gs).set us.length (ptrV g)).take (us.length + 1) := by
      apply List.ext_getElem?
      intro i
      simp only [List.map_append, List.map_take, List.map_cons, List.map_nil, List.getElem?_take, List.getElem?_set, List.length_map]
      rcases Nat.lt_trichotomy i us.length with hi | hi | hi
      · rw [List.getElem?_append_left (by simp; omega), List.getElem?_take, if_pos hi, if_pos (by omega), if_neg (by omega)]
      · subst hi
        rw [List.getElem?_append_right (by simp; omega)]
        simp [hlen, Nat.min_eq_left (Nat.le_of_lt hlen)]
      · rw [if_neg (by omega), List.getElem?_eq_none (by simp; omega)]
    rw [e, show (us ++ [t]).length = us.length + 1 by simp]
    exact h2
  · have hkeep : ∀ (i : Nat) (u : Kt) (d : Nat), i < us.length → us[i]? = some u → gs[i]? = some d → TreeAt w (fun k => k = r) u d := fun i u d hi hu hd => by
      have := h.2 i u d (by rw [List.getElem?_append_left hi]; exact hu) hd
      exact TreeAt.keep (fun k hk _ => rfl) (fun k _ hx => by simp [Value.ownBlock]; exact hx.symm) u d this
    rcases Nat.lt_or_ge i us.length with hi | hi
    · rw [List.getElem?_append_left hi] at hu
      rw [List.getElem?_append_left (by simp; omega), List.getElem?_take, if_pos hi] at hd
      exact hk _ _ (hkeep i u d hi hu hd)
    · rw [List.getElem?_append_right hi] at hu
      rw [List.getElem?_append_right (by simp; omega)] at hd
      by_cases hz : i - us.length = 0
      · rw [hz] at hu
        rw [show i - (List.take us.length gs).length = 0 by simp; omega] at hd
        simp at hu hd
        subst hu hd
        exact hk _ _ ht
      · rw [List.getElem?_eq_none (by simp; omega)] at hu; cases hu
/-- The same, the store told ahead of two new blocks. -/
theorem StackT.put' {w : World} {B E r cap : Nat} {us vs : List Kt} {gs : List Nat} {p t : Kt} {g : Nat} {o1 o2 : Obj} (h : StackT ((w.alloc o1).alloc o2) B E (.slice (some ⟨r, 0, none⟩) (us ++ p :: vs).length cap) (us ++ p :: vs) gs) (hr : r < w.heap.size) (ht : TreeAt ((w.alloc o1).alloc o2) (fun k => k = r) t g) :
    StackT (((w.setCell ⟨r, us.length, none⟩ (ptrV g)).alloc o1).alloc o2) B E (.slice (some ⟨r, 0, none⟩) (us.length + 1) cap) (us ++ [t]) (gs.take us.length ++ [g]) := by
  have := StackT.put (vs := vs) h ht
  rw [World.setCell_alloc_past _ _ _ _ (by simp; omega), World.setCell_alloc_past _ _ _ _ hr] at this
  exact this
/-- The trees at the end of the stack, clear of its row. -/
theorem StackT.tree {w : World} {B E r cap n : Nat} {ts : List Kt} {gs : List Nat} (h : StackT w B E (.slice (some ⟨r, 0, none⟩) n cap) ts gs) {i : Nat} {t : Kt} {g : Nat} (ht : ts[i]? = some t) (hg : gs[i]? = some g) : TreeAt w (fun k => k = r) t g :=
  TreeAt.keep (fun k hk _ => rfl) (fun k _ hx => by simp [Value.ownBlock]; exact hx.symm) t g (h.2 i t g ht hg)
/-- A tree clear of what is not there yet. -/
theorem TreeAt.old {w : World} {t : Kt} {g r : Nat} (h : TreeAt w (fun _ => False) t g) (hr : w.heap.size ≤ r) : TreeAt w (fun k => k = r) t g :=
  TreeAt.keep (fun k hk _ => rfl) (fun k hk hx => by have hx : k = r := hx; omega) t g h

/-- A leaf just made is clear of the stack. -/
theorem StackT.leaf {w w1 : World} {B E : Nat} {v : Value} {ts : List Kt} {gs : List Nat} (h : StackT w B E v ts gs) (hx : Ext w w1) (s : Int) (ET E2 : Nat) :
    TreeAt ((w1.alloc (.cells #[.int .i64 s, .slice none 0 0] ET)).alloc (.cells #[ptrV w1.heap.size] E2)) (fun k => v.ownBlock = some k) (.leaf s) w1.heap.size := by
  refine ⟨fun h' => ?_, by simp [go_sem], by simp [go_sem]⟩
  have := (World.ownsRow.lt h.1 _ h').2
  have := hx.size
  omega
/-- Nodes just made. -/
theorem TreeAt.mkStar {w1 : World} {h c ga r : Nat} {a : Kt} (hc : w1.cell? ⟨h, 0, none⟩ = some (ptrV ga)) (hh : h ≠ r) (ht : TreeAt w1 (fun k => k = r) a ga) (hr : r < w1.heap.size) (ET : Nat) (o : Obj) :
    TreeAt ((w1.alloc (.cells #[.int .i64 21, .slice (some ⟨h, 0, none⟩) 1 c] ET)).alloc o) (fun k => k = r) (.star a) w1.heap.size := by
  have hx : Ext w1 ((w1.alloc (.cells #[.int .i64 21, .slice (some ⟨h, 0, none⟩) 1 c] ET)).alloc o) := ((Ext.refl _).alloc _).alloc _
  exact ⟨fun e => by have e : w1.heap.size = r := e; omega, by simp [go_sem], h, c, ga, by simp [go_sem], hh, hx.cell' hc (lt_of_cell hc), ht.ext hx⟩
theorem TreeAt.mkTwo {w1 : World} {h c ga gb r : Nat} {a b : Kt} {s : Int} (hc : w1.cell? ⟨h, 0, none⟩ = some (ptrV ga)) (hd : w1.cell? ⟨h, 1, none⟩ = some (ptrV gb)) (hh : h ≠ r) (ht : TreeAt w1 (fun k => k = r) a ga) (hu : TreeAt w1 (fun k => k = r) b gb) (hr : r < w1.heap.size) (ET : Nat) (o : Obj) :
    TreeAt ((w1.alloc (.cells #[.int .i64 s, .slice (some ⟨h, 0, none⟩) 2 c] ET)).alloc o) (fun k => k = r) (.two s a b) w1.heap.size := by
  have hx : Ext w1 ((w1.alloc (.cells #[.int .i64 s, .slice (some ⟨h, 0, none⟩) 2 c] ET)).alloc o) := ((Ext.refl _).alloc _).alloc _
  exact ⟨fun e => by have e : w1.heap.size = r := e; omega, by simp [go_sem], h, c, ga, gb, by simp [go_sem], hh, hx.cell' hc (lt_of_cell hc), hx.cell' hd (lt_of_cell hd), ht.ext hx, hu.ext hx⟩
/-! ### append, and where the answer lies -/
theorem run_append_where {P : Program} {w : World} (base : Nat) (t ty e : TypeId) (i : TypeInfo) (z : Value) (by' : Nat) (ht : P.underlying t = some (.slice e)) (hi : P.info? e = some i) (hz : i.zero = some z) (hsize : i.size = 1) (hby : i.bytes = by')
    (v : Value) (n : Nat) (xs : List Value) (hown : w.ownsRow base e 1 v n xs) (ad : Addr) (c : Nat) (u : Value) (hc : w.cell? ad = some u) (hu : u.oneCell' = true)
    (h63 : n + 1 ≤ maxLen) (hbytes : (n + 1) * by' ≤ 140737488355328) (v' : Value) (w' : World)
    (hr : (Builtin.append_ #[t, t] ty #[v, .slice (some ad) 1 c]).run P w = .ok v' w') : v'.ownBlock = v.ownBlock ∨ v'.ownBlock = some w.heap.size := by
  have hnews : ∀ j x, ([u] : List Value)[j]? = some x → w.cell? (ad.add j) = some x := fun j x hj => by
    match j, hj with
    | 0, hj => simp at hj; subst hj; simpa [Addr.add] using hc
    | j + 1, hj => simp at hj
  have h1 : ∀ x ∈ ([u] : List Value), x.oneCell' = true := fun x hx => by simp at hx; subst hx; exact hu
  have hl : ([u] : List Value).length = 1 * i.size := by rw [hsize]; rfl
  simp only [maxLen] at h63
  subst hby
  rcases hown.2 with ⟨rfl, rfl⟩ | ⟨g, cap, cur, rfl, hbg, hg, hnc, hcm, hcs, htake⟩
  · have := run_append_nil (P := P) w t ty e i z ht hi hz ad 1 c [u] hl hnews (by omega) (by omega) (by omega)
    rw [this] at hr
    simp only [Result.ok.injEq] at hr
    rw [← hr.1]
    exact .inr rfl
  · by_cases hroom : n + 1 ≤ cap
    · have := run_append_room (P := P) w t ty e i ht hi g n cap cur hg ad 1 c [u] hl hnews h1 hroom (by rw [hsize, hcs]; simp; omega)
      rw [this] at hr
      simp only [Result.ok.injEq] at hr
      rw [← hr.1]
      exact .inl rfl
    · have holds : ∀ j x, xs[j]? = some x → w.cell? ((⟨g, 0, none⟩ : Addr).add j) = some x := hown.cells (g := g) rfl
      have := run_append_grow (P := P) w t ty e i z ht hi hz ⟨g, 0, none⟩ n cap xs (by rw [hsize]; exact hown.1) holds ad 1 c [u] hl hnews (by omega) (by omega) (growslice_fits (by omega) hbytes)
      rw [this] at hr
      simp only [Result.ok.injEq] at hr
      rw [← hr.1]
      exact .inr rfl
/-- append of one value of one cell: and where the answer lies. -/
theorem want_append_at {P : Program} {ops : Array Oper} {rest : List Oper} {o : Oper} {a : Act} {Q : Exit → Act → World → Prop} {w : World} (hw : Region.wanted o (yielded ops a.tmps) = true) (s x : Operand) (t : TypeId)
    (ho : o.op = .call { callee := .builtin .append, args := #[s, x], argTypes := #[t, t] }) (B E : Nat) (z : Value) (by' : Nat) (ht : P.underlying t = some (.slice E))
    (hinfo : (P.info? E).map (fun i => (i.zero, i.size, i.bytes)) = some (some z, 1, by')) (hz : z.cells.size = 1) (hby : by' ≤ 100)
    (v : Value) (n : Nat) (xs : List Value) (hs : a.eval s = v) (hown : w.ownsRow B E 1 v n xs) (g : Nat) (u : Value) (hx : a.eval x = .slice (some ⟨g, 0, none⟩) 1 1) (hcell : w.cell? ⟨g, 0, none⟩ = some u) (hu : u.oneCell' = true)
    (hlen : n + 1 ≤ 1099511627776) (hB : B ≤ w.heap.size)
    (h : ∀ v' w', w'.ownsRow B E 1 v' (n + 1) (xs ++ [u]) → w.grownBy w' v.ownBlock → (v'.ownBlock = v.ownBlock ∨ v'.ownBlock = some w.heap.size) → wpList P ops Q rest (a.put o.dst v') w') : wpList P ops Q (o :: rest) a w := by
  obtain ⟨i, hi, hz0, hz1, hz2⟩ := info_parts hinfo
  refine BigFrame.wpList_want hw fun K hK' => ?_
  have hby2 : (n + 1) * by' ≤ 140737488355328 := Nat.le_trans (Nat.mul_le_mul hlen hby) (by decide)
  have hnews : ∀ j u', ([u] : List Value)[j]? = some u' → w.cell? ((⟨g, 0, none⟩ : Addr).add j) = some u' := fun j u' hj => by
    match j, hj with
    | 0, hj => simp at hj; subst hj; simpa [Addr.add] using hcell
    | j + 1, hj => simp at hj
  obtain ⟨v', w', hr, h2, h3, h4⟩ := run_append_own (P := P) w B t o.type E i z 1 by' ht hi hz0 hz1 hz2 hz (by decide) v n xs hown ⟨g, 0, none⟩ 1 1 [u] rfl hnews (fun u' hu' => by simp at hu'; subst hu'; exact hu) (by unfold maxLen; omega) hby2 hB
  have hwh := run_append_where (P := P) B t o.type E i z by' ht hi hz0 hz1 hz2 v n xs hown ⟨g, 0, none⟩ 1 u hcell hu (by unfold maxLen; omega) hby2 v' w' hr
  unfold Oper.wp execOp
  simp only [ho, resolve, invoke, builtin, Sem.run_bind, Sem.run_pure, Result.andThen_ok, List.map_toArray, List.map_cons, List.map_nil, hs, hx, hr]
  exact hK' _ _ (h v' w' h2 h3 hwh)
/-- append of some values of one cell to nil. -/
theorem want_append_fresh {P : Program} {ops : Array Oper} {rest : List Oper} {o : Oper} {a : Act} {Q : Exit → Act → World → Prop} {w : World} (hw : Region.wanted o (yielded ops a.tmps) = true) (s x : Operand) (t : TypeId)
    (ho : o.op = .call { callee := .builtin .append, args := #[s, x], argTypes := #[t, t] }) (E : Nat) (z : Value) (by' : Nat) (ht : P.underlying t = some (.slice E))
    (hinfo : (P.info? E).map (fun i => (i.zero, i.size, i.bytes)) = some (some z, 1, by')) (hz : z.cells.size = 1) (hby : by' ≤ 100)
    (hs : a.eval s = .slice none 0 0) (ax : Option Addr) (m cx : Nat) (news : List Value) (hx : a.eval x = .slice ax m cx) (hl : news.length = m)
    (hi : 0 < m → ∃ b off, ax = some ⟨b, off, none⟩ ∧ ∀ j u, news[j]? = some u → w.cell? ⟨b, off + j, none⟩ = some u) (h1 : ∀ u ∈ news, u.oneCell' = true) (hlen : m ≤ 1099511627776)
    (h : ∀ v' w', w'.ownsRow w.heap.size E 1 v' m news → Ext w w' → (m = 0 → v' = .slice none 0 0) → wpList P ops Q rest (a.put o.dst v') w') : wpList P ops Q (o :: rest) a w := by
  refine BigFrame.wpList_want hw fun K hK' => ?_
  by_cases hm : m = 0
  · subst hm
    have hn : news = [] := List.eq_nil_of_length_eq_zero hl
    subst hn
    obtain ⟨i, hi', hz0, hz1, hz2⟩ := info_parts hinfo
    have hrun := run_append_none0 (P := P) (w := w) w.heap.size t o.type E i 1 ht hi' _ 0 [] (World.ownsRow_nil w w.heap.size E 1) ax cx
    unfold Oper.wp execOp
    simp only [ho, resolve, invoke, builtin, Sem.run_bind, Sem.run_pure, Result.andThen_ok, List.map_toArray, List.map_cons, List.map_nil, hs, hx, hrun]
    exact hK' _ _ (h _ w (World.ownsRow_nil w w.heap.size E 1) (Ext.refl w) fun _ => rfl)
  · refine wp_append_of s x t ho w.heap.size E 1 by' z ht hinfo hz (by decide) hby (.slice none 0 0) 0 [] hs (World.ownsRow_nil w w.heap.size E 1) ax m cx news hx (by omega) hi h1 (by omega) (Nat.le_refl _) fun v' w' h2 h3 => hK' _ _ (h v' w' ?_ ?_ fun e => absurd e hm)
    · simpa using h2
    · exact Ext.row (Ext.refl w) h3 (fun k hk => by simp [Value.ownBlock] at hk)
end Go.Kt
