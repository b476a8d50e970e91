/- Merged texts: contracts and plain lemmas (Yg). -/
import Derived.Test.YtlaamecfknkmlaaGreatGt4
import Derived.Test.YtlaamecfknkmlaaGreatSo
namespace Go.Kt
set_option linter.unusedVariables false
open Go.Sort Go.Proofs Go.Shelf
/-- A list of numbers in memory, as a value of a row. -/
structure RowIn (w : World) (E : Ek) where
  a : Option Addr
  c : Nat
  l : List Int
  ok : IntsE w E a l
  fit : l.length ≤ c
  few : l.length ≤ 4611686018427387904
instance (w : World) (E : Ek) : Inhabited (RowIn w E) := ⟨⟨none, 0, [], IntsE.nil _ _ _, Nat.le_refl _, by simp⟩⟩
def encR {w : World} {E : Ek} (x : RowIn w E) : Value := .slice x.a x.l.length x.c
def cfR {w : World} {E : Ek} (x y : RowIn w E) : Int := cmpL x.l y.l
theorem ltL_not {x y z : List Int} (h1 : ltL x y = false) (h2 : ltL y z = false) : ltL x z = false := by
  cases h : ltL x z
  · rfl
  · cases h3 : ltL y x
    · rw [ltL_tri h1 h3] at h; rw [h] at h2; cases h2
    · have := ltL_trans h3 h
      rw [this] at h2; cases h2
theorem ltR {w : World} {E : Ek} (x y : RowIn w E) : ltOf (cfR (w := w) (E := E)) x y = ltL x.l y.l := cmpL_lt x.l y.l
theorem swoR (w : World) (E : Ek) : SWO (ltOf (cfR (w := w) (E := E))) where
  irrefl x := by rw [ltR]; exact ltL_irr _
  trans x y z h1 h2 := by rw [ltR] at *; exact ltL_trans h1 h2
  ntrans x y z h1 h2 := by rw [ltR] at *; exact ltL_not h1 h2
theorem heap_put {α : Type} [Inhabited α] {w : World} {g n : Nat} {os : Array Obj} {cur : Array Value} {e : TypeId} {fr : Nat × Nat} (enc : α → Value) (d : Array α) (hb : w.heap[g]? = some (.cells cur e fr)) :
    (sortWorld enc w g 0 n d os).heap[g]? = some (.cells (putCells enc 0 d cur) e fr) := by
  have hg : g < w.heap.size := (Array.getElem?_eq_some_iff.1 hb).1
  unfold sortWorld
  rw [heap_grow_old _ _ (by simpa [putRow, mapBlock, Sort.ahead] using hg)]
  simp [putRow, mapBlock, Sort.ahead, Array.getElem?_modify, hb, onCells]
theorem grown_put {α : Type} [Inhabited α] {w : World} {g n : Nat} {os : Array Obj} (enc : α → Value) (d : Array α) : w.grownBy (sortWorld enc w g 0 n d os) (some g) := by
  unfold sortWorld
  refine ⟨rfl, rfl, rfl, by simp [putRow, mapBlock, Sort.ahead], fun k hk hne => ?_⟩
  rw [heap_grow_old _ _ (by simpa [putRow, mapBlock, Sort.ahead] using hk)]
  have : g ≠ k := fun e => hne (by rw [e])
  simp [putRow, mapBlock, Sort.ahead, Array.getElem?_modify, this]
theorem take_put {α : Type} [Inhabited α] (enc : α → Value) (cur : Array Value) (d : Array α) (h : d.size ≤ cur.size) : (putCells enc 0 d cur).toList.take d.size = d.toList.map enc := by
  apply List.ext_getElem?
  intro j
  by_cases hj : j < d.size
  · rw [List.getElem?_take_of_lt hj, Array.getElem?_toList]
    simp [putCells, hj, show j < cur.size by omega]
  · rw [List.getElem?_take_eq_none (by omega), List.getElem?_eq_none (by simp; omega)]
/-- A row of readable lists, as the sort takes it. -/
theorem rowsIn {w : World} {E : Ek} {vs : List Value} {ll : List (List Int)} (h : RowsV w E vs ll) (hf : ∀ i, i < ll.length → (rowI ll i).length ≤ 4611686018427387904) : ∃ d : Array (RowIn w E), d.size = ll.length ∧ d.toList.map encR = vs ∧ d.toList.map (·.l) = ll := by
  have key : ∀ n, n ≤ ll.length → ∃ ds : List (RowIn w E), ds.length = n ∧ ds.map encR = vs.take n ∧ ds.map (·.l) = ll.take n := by
    intro n
    induction n with
    | zero => exact fun _ => ⟨[], rfl, by simp, by simp⟩
    | succ n ih =>
      intro hn
      obtain ⟨ds, h1, h2, h3⟩ := ih (by omega)
      obtain ⟨a, c, k1, k2, k3⟩ := h.2 n (by omega)
      refine ⟨ds ++ [⟨a, c, rowI ll n, k3, k2, hf n (by omega)⟩], by simp [h1], ?_, ?_⟩
      · rw [List.map_append, h2, List.take_add_one, k1]; rfl
      · rw [List.map_append, h3, List.take_add_one, List.getElem?_eq_getElem (by omega)]; simp [rowI_getElem _ _ (show n < ll.length by omega)]
  obtain ⟨ds, h1, h2, h3⟩ := key ll.length (Nat.le_refl _)
  exact ⟨ds.toArray, by simpa using h1, by rw [← h.1, List.take_length] at h2; simpa using h2, by rw [List.take_length] at h3; simpa using h3⟩
/-- And back, in a world where another block was written. -/
theorem RowsV.of {w w' : World} {E : Ek} (d : List (RowIn w E)) (hk : ∀ x : RowIn w E, IntsE w' E x.a x.l) : RowsV w' E (d.map encR) (d.map (·.l)) := by
  refine ⟨by simp, fun i hi => ?_⟩
  have hd : i < d.length := by simpa using hi
  refine ⟨d[i].a, d[i].c, ?_, ?_, ?_⟩
  · rw [rowI_getElem _ _ hi, List.getElem?_map, List.getElem?_eq_getElem hd]
    simp [encR]
  · rw [rowI_getElem _ _ hi]; simpa using d[i].fit
  · rw [rowI_getElem _ _ hi]; simpa using hk d[i]
end Go.Kt
namespace Go.Proofs.YtlaamecfknkmlaaGreat
set_option linter.unusedVariables false
open Go.RowKit Go.Kt Go.Sort Go.Shelf

/-- What sorting a list of lists comes to. -/
def Sorted (X : Nat → Prop) (w : World) (B : Nat) (v : Value) (ll : List (List Int)) (e : Ending) (w' : World) : Prop :=
  e = .returned (.tuple #[]) ∧ ∃ mm : List (List Int), OwnLs w' B (Ek.mk 3 X) 23 v mm ∧ mm.length = ll.length ∧ (∀ x, x ∈ mm ↔ x ∈ ll) ∧ mm.Pairwise (fun x y => ltL y x = false) ∧ w.grownBy w' v.ownBlock
theorem sort_c {X : Nat → Prop} (a : Option Addr) (cap : Nat) (ll : List (List Int)) (B : Nat) (w : World) (h : OwnLs w B (Ek.mk 3 X) 23 (.slice a ll.length cap) ll) (hn : ll.length ≤ 4194304) (hf : ∀ i, i < ll.length → (rowI ll i).length ≤ 4611686018427387904) :
    Calls Tryz.prog 130 #[.slice a ll.length cap, .func (.func 131) #[] #[]] w (Sorted X w B (.slice a ll.length cap) ll) := by
  by_cases h0 : ll.length = 0
  · have hl : ll = [] := List.eq_nil_of_length_eq_zero h0
    have hc := AnyF.slices_SortFunc_none { Tryz.sortF with } a cap (.func (.func 131) #[] #[]) w
    rw [h0]
    rw [h0] at h
    refine hc.mono ?_
    rintro e w' ⟨rfl, rfl⟩
    exact ⟨rfl, ll, h, rfl, fun x => Iff.rfl, by rw [hl]; exact List.Pairwise.nil, (Ext.refl _).grown _⟩
  · have hty := h.typed
    obtain ⟨vs, h1, h2⟩ := h
    rcases h1.2 with ⟨-, hz⟩ | ⟨g, cap', cur, hv, hB, hg, hnc, hcm, hcs, htk⟩
    · exact absurd hz h0
    obtain ⟨rfl, rfl⟩ : a = some ⟨g, 0, none⟩ ∧ cap = cap' := by simp at hv; exact hv
    obtain ⟨d, hd, hde, hdl⟩ := rowsIn h2 hf
    have eg : ∀ args w, (callFunc 131 args).run Tryz.prog w = .ok (.enter 131 args) w := enters_of Tryz.func131 (by kernel_rfl) rfl
    have hE : (Ek.mk 3 X).t ≠ 23 := by show (3 : Nat) ≠ 23; decide
    have hkeep : ∀ (m : Nat) (os : Array Obj) (dk : Array (RowIn w (Ek.mk 3 X))) (x : RowIn w (Ek.mk 3 X)), IntsE (sortWorld encR w g 0 m dk os) (Ek.mk 3 X) x.a x.l := fun m os dk x =>
      x.ok.kept (grown_put encR dk) (fun k hk => by obtain rfl : g = k := Option.some.inj hk; exact ⟨cur, (0, 0), hg⟩) hE
    have hcmp : CmpLays1 Tryz.prog 131 #[] encR cfR g 0 d.size w := fun m os dk hs x y => by
      refine (compare_c x.a y.a x.c y.c x.l y.l _ (hkeep m os dk x).1 (hkeep m os dk y).1 x.few y.few).mono ?_
      rintro e w' ⟨rfl, rfl⟩
      exact ⟨rfl, 0, #[], by rw [grow_empty]; rfl⟩
    have hH : Holds encR w g 0 d := fun j hj => by
      have hj' : j < ll.length := by omega
      constructor
      · rw [Nat.zero_add, World.ownsRow.cellAt h1 j (by omega), ← hde, List.getElem?_map, Array.getElem?_toList, Array.getElem?_eq_getElem hj, getElem!_pos d j hj]; rfl
      · rw [Nat.zero_add]; exact World.ownsRow.frozenAt h1 j
    have hcon := Any.slices_SortFunc Tryz.sortF encR (fun _ => rfl) cfR (swoR w (Ek.mk 3 X)) 131 #[] g 0 cap d w eg hcmp hH (Array.getElem?_eq_some_iff.1 hg).1 (by omega)
    rw [hd] at hcon
    refine hcon.mono ?_
    rintro e w' ⟨rfl, d', n, os, hp, hs, rfl⟩
    have hps : d'.size = d.size := hp.1
    have hperm : d'.toList.Perm d.toList := by
      have := hp.2.2
      rw [show ll.length = d'.size by omega, Array.extract_size, hps, Array.extract_size] at this
      exact this
    refine ⟨rfl, d'.toList.map (·.l), ⟨d'.toList.map encR, ?_, RowsV.of _ (hkeep n os d')⟩, by simp; omega, fun x => ?_, ?_, grown_put encR d'⟩
    · refine ⟨by simp, .inr ⟨g, cap, putCells encR 0 d' cur, by simp; omega, hB, heap_put encR d' hg, by simp; omega, hcm, by simpa [putCells] using hcs, ?_⟩⟩
      have := take_put encR cur d' (by omega)
      simpa using this
    · rw [← hdl]
      exact (hperm.map (·.l)).mem_iff
    · rw [List.pairwise_map]
      rw [List.pairwise_iff_getElem]
      intro i j hi hj hij
      have hi' : i < d'.size := by simpa using hi
      have hj' : j < d'.size := by simpa using hj
      have := hs i j (Nat.zero_le _) hij (by omega)
      rw [getElem!_pos d' i hi', getElem!_pos d' j hj', ltR] at this
      simpa using this
end Go.Proofs.YtlaamecfknkmlaaGreat
