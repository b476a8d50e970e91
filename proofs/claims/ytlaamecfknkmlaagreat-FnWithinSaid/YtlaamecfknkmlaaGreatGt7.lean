/- Merged texts: contracts and plain lemmas (Nb, Nc, Nd). -/
import Derived.Test.YtlaamecfknkmlaaGreatGtNa
import Derived.Maps.Range
import Derived.Deep.RegionHeld3
import Derived.Lib.QuietBelow
import Derived.Maps.RangeWalk
namespace Go.Kt
set_option linter.unusedVariables false
theorem rowP_take {L : List (Nat × Nat)} {k : Nat} (h : k < L.length) : (L.take (k + 1)).map rowP = (L.take k).map rowP ++ [rowP (atP L k)] := by
  rw [List.take_add_one, List.getElem?_eq_getElem h, List.map_append, atP_getElem _ _ h]; rfl
theorem prL_length (N M : List (List Int)) : (prL N M).length ≤ 100 := by
  unfold prL prB
  split
  · rename_i h; exact of_decide_eq_true h
  · simp
end Go.Kt
namespace Go.Proofs.YtlaamecfknkmlaaGreat
set_option linter.unusedVariables false
open Go.RowKit Go.Kt
def RetRows (w : World) (ll : List (List Int)) (r : Ending) (w' : World) : Prop := ∃ a c, r = .returned (.slice a ll.length c) ∧ RowsAt w' a ll ∧ Ext w w'
set_option maxRecDepth 100000 in
set_option maxHeartbeats 4000000 in
theorem pairsOf_c (a b : Option Addr) (c d : Nat) (e f : List Int) (w : World) (he : IntsAt w a e) (hf : IntsAt w b f) (hle : e.length ≤ 4194304) (hlf : f.length ≤ 4194304) :
    Calls Tryz.prog 96 #[.slice a e.length c, .slice b f.length d] w (RetRows w (prsF e f)) := by
  have CA : Hid (∀ w', Ext w w' → Calls Tryz.prog 55 #[.slice a e.length c, .slice b f.length d] w' (RetAs w' e f)) := fun w' x => autosOf_c a b c d e f w' (he.ext x) (hf.ext x) hle hlf
  have CP : Hid (auB e = true → auB f = true → ∀ w' v, TogAt w' e f v → Calls Tryz.prog 76 #[v] w' (RetPr w' (auN e) (auN f))) := fun h1 h2 w' v h => by
    obtain ⟨a1, c1, a2, c2, b1, d1, b2, d2, rfl, i1, i2, i3, i4⟩ := h
    exact pairs_c e f a1 c1 a2 c2 b1 d1 b2 d2 w' i1 i2 i3 i4 h1 h2
  clear he hf
  cases hb : (auB e && auB f)
  · have HF : Hid (prsF e f = []) := by unfold Hid prsF; rw [hb]; rfl
    rw [HF.out]
    generalize e.length = ne at *
    generalize f.length = nf at *
    go_enter Tryz.func96, Tryz.ntmps96
    go_wp2_with fail
    refine (CA.out _ (by (repeat (first | exact Ext.refl _ | assumption | refine Ext.alloc ?_ _ | refine Ext.drewN ?_ _ | refine Ext.drew ?_)))).mono ?_
    rintro r w1 ⟨v, rfl, hv, x1⟩
    obtain ⟨a1, c1, a2, c2, b1, d1, b2, d2, rfl, -⟩ := hv
    rw [hb]
    go_wp2
    go_ret
    exact ⟨none, 0, rfl, ⟨0, 0, fun h => absurd h (by simp), fun i hi => absurd hi (by simp)⟩, Ext.trans (show Ext w w1 by exact x1) (by (repeat (first | exact Ext.refl _ | assumption | refine Ext.alloc ?_ _ | refine Ext.drewN ?_ _ | refine Ext.drew ?_)))⟩
  · have h1 : auB e = true := by rw [Bool.and_eq_true] at hb; exact hb.1
    have h2 : auB f = true := by rw [Bool.and_eq_true] at hb; exact hb.2
    have HF : Hid (prsF e f = (prL (auN e) (auN f)).map rowP) := by unfold Hid prsF; rw [hb]; rfl
    have CP2 := Lib.hid (CP.out h1 h2)
    have hll := prL_length (auN e) (auN f)
    have HR : Hid (∀ a c w', RowsAt w' a ((prL (auN e) (auN f)).map rowP) → Ext w w' → RetRows w (prsF e f) (.returned (.slice a ((prL (auN e) (auN f)).map rowP).length c)) w') := fun a c w' x1 x2 => by
      rw [HF.out]; exact ⟨a, c, rfl, x1, x2⟩
    clear CP h1 h2 HF
    generalize RetRows w (prsF e f) = FQ at *
    generalize e.length = ne at *
    generalize f.length = nf at *
    go_enter Tryz.func96, Tryz.ntmps96
    go_wp2_with fail
    refine (CA.out _ (by (repeat (first | exact Ext.refl _ | assumption | refine Ext.alloc ?_ _ | refine Ext.drewN ?_ _ | refine Ext.drew ?_)))).mono ?_
    rintro r w1 ⟨v, rfl, hv, x1⟩
    have HV := Lib.hid hv
    have X1 := Lib.hid x1
    obtain ⟨a1, c1, a2, c2, b1, d1, b2, d2, rfl, -⟩ := hv
    rw [hb]
    clear CA x1 hb
    generalize (auE e).length = nE at *
    generalize hNe : (auN e).length = nN at *
    generalize (auE f).length = nF at *
    generalize hNf : (auN f).length = nM at *
    clear hNe hNf
    generalize auN e = N at *
    generalize auN f = M at *
    go_wp2_with fail
    refine (CP2.out _ _ (HV.out.ext (by (repeat (first | exact Ext.refl _ | assumption | refine Ext.alloc ?_ _ | refine Ext.drewN ?_ _ | refine Ext.drew ?_))))).mono ?_
    rintro r w2 ⟨vL, rfl, oL, x2⟩
    obtain ⟨aL, cL, rfl⟩ := oL.shape
    have OL := Lib.hid oL
    have X2 := Lib.hid (X1.out.trans (Ext.trans (show Ext w1 _ by (repeat (first | exact Ext.refl _ | assumption | refine Ext.alloc ?_ _ | refine Ext.drewN ?_ _ | refine Ext.drew ?_))) x2))
    clear oL x2 CP2
    generalize hL : prL N M = L at *
    clear hL
    generalize hn : L.length = n at *
    have HN := Lib.hid hn
    clear hn
    go_wp2
    go_loopw [9, 27] (fun v i wr => Hid (∃ k : Nat, k ≤ n ∧ i = .int .i64 k ∧ OwnLs wr w2.heap.size (ek 3) 23 v ((L.take k).map rowP) ∧ Ext w2 wr)) (fun _ i _ => n - (intOf i).toNat)
    case atStart => exact Lib.hid ⟨0, Nat.zero_le _, rfl, OwnLs.nil _ _ _ _, by (repeat (first | exact Ext.refl _ | assumption | refine Ext.alloc ?_ _ | refine Ext.drewN ?_ _ | refine Ext.drew ?_))⟩
    case round =>
      obtain ⟨k, hk, rfl, ho, hx⟩ := hrel.out
      obtain ⟨a9, c9, rfl⟩ := ho.shape
      have HO := Lib.hid ho
      have HX := Lib.hid hx
      have hz := hx.size
      clear hrel ho hx
      by_cases hlt : k < n
      · have hkL : k < L.length := by rw [HN.out]; exact hlt
        obtain ⟨g, rfl, -, hBg, hg, hcells⟩ := OL.out.row (by omega)
        obtain ⟨hc0, hc1⟩ := hcells k hkL
        have d0 := HX.out.cell' hc0 hg
        have d1 := HX.out.cell' hc1 hg
        have HT := Lib.hid (rowP_take hkL)
        have hl9 : ((L.take k).map rowP).length ≤ 100 := by rw [List.length_map, List.length_take]; omega
        clear hcells hc0 hc1
        generalize atP L k = p at *
        generalize (L.take k).map rowP = la at *
        generalize hnla : la.length = nla at *
        have HNla := Lib.hid hnla
        clear hnla
        have HI2 : Hid (IntsE ((wr.alloc (.cells #[.int .i64 (p.1 : Nat), .int .i64 (p.2 : Nat)] 71)).alloc (.cells #[.int .i64 (p.1 : Nat), .int .i64 (p.2 : Nat)] 3)) (ek 3) (some ⟨wr.heap.size + 1, 0, none⟩) (rowP p)) := by
          unfold Hid
          have h := OwnI.intsE (OwnI.lit2 (wr.alloc (.cells #[.int .i64 (p.1 : Nat), .int .i64 (p.2 : Nat)] 71)) 0 3 (p.1 : Nat) (p.2 : Nat) (Nat.zero_le _))
          simpa [rowP] using h
        go_wp2_with (at_builtin; go_loud (refine any_append_lsA (by rfl) _ _ _ rfl w2.heap.size (ek 3) 23 neE Tryz.underlying24 infoInts _ la rfl (HO.out.ext (by (repeat (first | exact Ext.refl _ | assumption | refine Ext.alloc ?_ _ | refine Ext.drewN ?_ _ | refine Ext.drew ?_)))) _ (some ⟨wr.heap.size + 1, 0, none⟩) 2 (rowP p) rfl (by simp [go_sem, rowP]) (HI2.out.ext (by (repeat (first | exact Ext.refl _ | assumption | refine Ext.alloc ?_ _ | refine Ext.drewN ?_ _ | refine Ext.drew ?_)))) (by simp [rowP]) (by have := HNla.out; omega) (by simp; omega) ?_))
        intro v7 w7 o7 g7 t7
        rw [← HT.out] at o7
        have X7 := Lib.hid (OwnLs.grown (HO.out.ext (by (repeat (first | exact Ext.refl _ | assumption | refine Ext.alloc ?_ _ | refine Ext.drewN ?_ _ | refine Ext.drew ?_)))) (HX.out.trans (by (repeat (first | exact Ext.refl _ | assumption | refine Ext.alloc ?_ _ | refine Ext.drewN ?_ _ | refine Ext.drew ?_)))) g7)
        have O7 := Lib.hid o7
        clear o7 g7 t7
        go_wp2
        go_roundw
        case rel => exact Lib.hid ⟨k + 1, by omega, by go_num, O7.out, X7.out⟩
        case measure => simp [intOf]; omega
      · obtain rfl : k = n := by omega
        have hT : (L.take k).map rowP = L.map rowP := by rw [show k = L.length by rw [HN.out], List.take_length]
        have hT2 : ((L.take k).map rowP).length = (L.map rowP).length := by rw [hT]
        have HR2 := HR.out a9 c9 wr (by rw [← hT]; exact HO.out.rows) (X2.out.trans HX.out)
        rw [← hT2] at HR2
        replace HR2 := Lib.hid HR2
        clear HO hT hT2
        generalize ((L.take k).map rowP).length = nr at *
        go_wp2
        exact HR2.out
end Go.Proofs.YtlaamecfknkmlaaGreat
namespace Go.Kt
set_option linter.unusedVariables false
def addS (S : List (Nat × Nat)) (p : Nat × Nat) : List (Nat × Nat) := if p ∈ S then S else S ++ [p]
/-- The pairs of the first rows, each once. -/
def rowsS (L : List (List Int)) : Nat → List (Nat × Nat)
  | 0 => []
  | k + 1 => addS (rowsS L k) (pairP (rowI L k))
theorem mem_addS (S : List (Nat × Nat)) (p q : Nat × Nat) : q ∈ addS S p ↔ q ∈ S ∨ q = p := by
  unfold addS
  split
  · rename_i h
    exact ⟨.inl, fun h' => h'.elim id (fun e => e ▸ h)⟩
  · simp
theorem mem_rowsS (L : List (List Int)) (p : Nat × Nat) : ∀ k, p ∈ rowsS L k ↔ ∃ j, j < k ∧ pairP (rowI L j) = p
  | 0 => by simp [rowsS]
  | k + 1 => by
    unfold rowsS
    rw [mem_addS, mem_rowsS L p k]
    constructor
    · rintro (⟨j, h1, h2⟩ | h)
      · exact ⟨j, by omega, h2⟩
      · exact ⟨k, by omega, h.symm⟩
    · rintro ⟨j, h1, h2⟩
      by_cases e : j = k
      · subst e; exact .inr h2.symm
      · exact .inl ⟨j, by omega, h2⟩
theorem rowsS_lt {n m k : Nat} {L : List (List Int)} (hk : k ≤ L.length) (h : ∀ j, j < k → rowB n m (rowI L j) = true) : ∀ p, p ∈ rowsS L k → p.1 < 2 ^ n ∧ p.2 < 2 ^ m := fun p hp => by
  obtain ⟨j, hj, rfl⟩ := (mem_rowsS L p k).1 hp
  have := rowB_pair (h j hj)
  exact ⟨this.2.1, this.2.2⟩
theorem rowsS_len (L : List (List Int)) : ∀ k, (rowsS L k).length ≤ k
  | 0 => Nat.le_refl _
  | k + 1 => by
    have := rowsS_len L k
    unfold rowsS addS
    split
    · omega
    · rw [List.length_append]; simp; omega
theorem hasP_rowsS {n m : Nat} {L : List (List Int)} (h : ∀ j, j < L.length → rowB n m (rowI L j) = true) (p : Nat × Nat) : rowP p ∈ L ↔ p ∈ rowsS L L.length := by
  rw [mem_rowsS]
  constructor
  · intro hp
    obtain ⟨j, hj, he⟩ := List.mem_iff_getElem.1 hp
    refine ⟨j, hj, ?_⟩
    rw [rowI_getElem _ _ hj, he, pairP_rowP]
  · rintro ⟨j, hj, rfl⟩
    rw [(rowB_pair (h j hj)).1, rowI_getElem _ _ hj]
    exact List.getElem_mem hj
/-- What is asked of each pair. -/
def chkB (E F : List Int) (N M : List (List Int)) (S : List (Nat × Nat)) (p : Nat × Nat) : Bool := endB E F p && (List.range 12).all fun m => decide (nxP N M p m ∈ S)
theorem okB_rows {e f : List Int} {L : List (List Int)} (h1 : (auB e && auB f) = true) (h2 : L.length ≤ 100) (h3 : ∀ j, j < L.length → rowB (auE e).length (auE f).length (rowI L j) = true) :
    okB e f L = (decide ((1, 1) ∈ rowsS L L.length) && (rowsS L L.length).all (chkB (auE e) (auE f) (auN e) (auN f) (rowsS L L.length))) := by
  have hh := hasP_rowsS h3
  have hall : L.all (rowB (auE e).length (auE f).length) = true := by
    rw [List.all_eq_true]
    intro r hr
    obtain ⟨j, hj, rfl⟩ := List.mem_iff_getElem.1 hr
    have := h3 j hj
    rw [rowI_getElem _ _ hj] at this; exact this
  unfold okB
  rw [h1, hall, decide_eq_true h2, Bool.true_and, Bool.true_and, Bool.true_and]
  have e1 : hasP L (1, 1) = decide ((1, 1) ∈ rowsS L L.length) := by unfold hasP; rw [decide_eq_decide]; exact hh (1, 1)
  rw [e1]
  congr 1
  rw [Bool.eq_iff_iff, List.all_eq_true, List.all_eq_true]
  have hm : ∀ p, movB (auN e) (auN f) L p 12 = (List.range 12).all fun m => decide (nxP (auN e) (auN f) p m ∈ rowsS L L.length) := fun p => by
    unfold movB
    congr 1
    funext m
    unfold hasP
    rw [decide_eq_decide]; exact hh _
  constructor
  · intro h p hp
    obtain ⟨j, hj, rfl⟩ := (mem_rowsS L p _).1 hp
    have := h (rowI L j) (by rw [rowI_getElem _ _ hj]; exact List.getElem_mem hj)
    unfold stepB at this
    rw [hm] at this
    exact this
  · intro h r hr
    obtain ⟨j, hj, rfl⟩ := List.mem_iff_getElem.1 hr
    have := h (pairP (rowI L j)) ((mem_rowsS L _ _).2 ⟨j, hj, rfl⟩)
    rw [rowI_getElem _ _ hj] at this
    unfold stepB
    rw [hm]
    exact this
theorem okB_bad {e f : List Int} {L : List (List Int)} {k : Nat} (hk : k < L.length) (h : rowB (auE e).length (auE f).length (rowI L k) = false) : okB e f L = false := by
  have : L.all (rowB (auE e).length (auE f).length) = false := by
    rw [Bool.eq_false_iff]
    intro ha
    rw [List.all_eq_true] at ha
    have := ha (rowI L k) (by rw [rowI_getElem _ _ hk]; exact List.getElem_mem hk)
    rw [h] at this; cases this
  unfold okB
  rw [this]; simp
theorem okB_off {e f : List Int} {L : List (List Int)} (h : (auB e && auB f) = false) : okB e f L = false := by unfold okB; rw [h]; rfl
theorem okB_many {e f : List Int} {L : List (List Int)} (h : 100 < L.length) : okB e f L = false := by
  have : decide (L.length ≤ 100) = false := by simp; omega
  unfold okB
  rw [this]; simp
end Go.Kt
namespace Go.Proofs.YtlaamecfknkmlaaGreat
set_option linter.unusedVariables false
open Go.RowKit Go.Kt
/-- An iterator over a map of pairs; those that are seen meet C. -/
def RngP (w : World) (b r : Nat) (S : List (Nat × Nat)) (C : Nat × Nat → Prop) : Prop :=
  SetP w b S ∧ r ≠ b ∧ ∃ seen : Array Nat, w.heap[r]? = some (.mapIter (some b) S.length seen S.length) ∧ ∀ i, i < S.length → seen.contains i = true → C (atP S i)
theorem born_entP {S : List (Nat × Nat)} {e : MapEntry} (h : e ∈ (entP S).toList) : e.born < S.length ∧ e = { key := pairV (atP S e.born), val := .bool true, born := e.born } := by
  unfold entP at h
  obtain ⟨k, hk⟩ := List.mem_iff_getElem?.1 h
  have hl : k < (entL S 0).length := (List.getElem?_eq_some_iff.1 hk).1
  rw [entL_length] at hl
  have hk2 : (entL S 0)[k]? = some e := hk
  rw [entL_getElem, List.getElem?_eq_getElem hl] at hk2
  have := Option.some.inj hk2
  subst this
  refine ⟨by simpa using hl, ?_⟩
  simp [atP_getElem _ _ hl]
theorem ent_mem {S : List (Nat × Nat)} {i : Nat} (h : i < S.length) : ({ key := pairV (atP S i), val := .bool true, born := i } : MapEntry) ∈ (entP S).toList := by
  unfold entP
  rw [List.mem_iff_getElem?]
  refine ⟨i, ?_⟩
  show (entL S 0)[i]? = _
  rw [entL_getElem, List.getElem?_eq_getElem h]
  simp [atP_getElem _ _ h]
theorem entL_nodup : ∀ (S : List (Nat × Nat)) (i : Nat), ((entL S i).map (·.born)).Nodup ∧ ∀ b, b ∈ (entL S i).map (·.born) → i ≤ b
  | [], i => by simp [entL]
  | p :: S, i => by
    obtain ⟨h1, h2⟩ := entL_nodup S (i + 1)
    unfold entL
    rw [List.map_cons]
    refine ⟨List.nodup_cons.2 ⟨fun h => ?_, h1⟩, fun b hb => ?_⟩
    · have h3 : i + 1 ≤ i := h2 _ h
      omega
    · rcases List.mem_cons.1 hb with h | h
      · subst h; exact Nat.le_refl _
      · have := h2 b h; omega
theorem left_less {es : Array MapEntry} {seen : Array Nat} {e : MapEntry} (h : e ∈ (leftOf es seen).toList) : (leftOf es (seen.push e.born)).size < (leftOf es seen).size := by
  have hs : ∀ sn : Array Nat, (leftOf es sn).size = (es.toList.filter fun x => !sn.contains x.born).length := fun sn => by unfold leftOf; rw [← Array.toList_filter, Array.length_toList]
  rw [hs, hs]
  unfold leftOf at h
  rw [Array.toList_filter, List.mem_filter] at h
  obtain ⟨h1, h2⟩ := h
  have e1 : es.toList.filter (fun x => !(seen.push e.born).contains x.born) = (es.toList.filter fun x => !seen.contains x.born).filter fun x => !(x.born == e.born) := by
    rw [List.filter_filter]
    congr 1
    funext x
    by_cases hx : x.born = e.born
    · simp [hx]
    · simp [Array.mem_push, hx]
  rw [e1]
  exact List.length_filter_lt_length_iff_exists.2 ⟨e, List.mem_filter.2 ⟨h1, h2⟩, by simp⟩
theorem RngP.left {w : World} {b r : Nat} {S : List (Nat × Nat)} {seen : Array Nat} (h : SetP w b S) (hr : w.heap[r]? = some (.mapIter (some b) S.length seen S.length)) : w.rangeLeft b r = (leftOf (entP S) seen).size := by
  unfold World.rangeLeft
  rw [h.1, hr]
/-- range m. -/
theorem wpList_rangeP {ops : Array Oper} {rest : List Oper} {o : Oper} {a : Act} {Q : Exit → Act → World → Prop} {w : World} (hg : o.guard = none) (m : Operand)
    (hop : o.op = Op.range 68 m) (b : Nat) (S : List (Nat × Nat)) (C : Nat × Nat → Prop) (hm : a.eval m = .map (some b)) (hown : SetP w b S)
    (hK : ∀ w', RngP w' b w.heap.size S C → Ext w w' → w'.heap.size = w.heap.size + 1 → wpList Tryz.prog ops Q rest (a.put o.dst (.pointer (some ⟨w.heap.size, 0, none⟩))) w') : wpList Tryz.prog ops Q (o :: rest) a w := by
  refine wpList_plain hg fun K' hK' => ?_
  have hM : Tryz.prog.underlying 68 = some (.map 71 4) := Tryz.underlying68
  have hgo : (getObj b).run Tryz.prog w = .ok (.map (entP S) S.length) w := by simp [getObj, Sem.run, hown.1]
  have hrun : (Instr.range 68 (.map (some b))).run Tryz.prog w = .ok (.pointer (some ⟨w.heap.size, 0, none⟩)) (w.alloc (.mapIter (some b) S.length #[] S.length)) := by
    unfold Instr.range
    simp only [Sem.run_bind, run_underlying hM, Result.andThen_ok, hgo, Sem.run_pure]
    rfl
  have hx : Ext w (w.alloc (.mapIter (some b) S.length #[] S.length)) := (Ext.refl _).alloc _
  have hk := hK _ ⟨hown.ext hx, by have := hown.lt; omega, #[], heap_alloc_new w _, fun i _ h => by simp at h⟩ hx (by simp)
  unfold Oper.wp
  simp [execOp, hop, hm, hrun, Result.andThen]
  exact hK' _ _ hk
/-- The step of a round over a map. -/
theorem wpList_nextP {ops : Array Oper} {rest : List Oper} {o : Oper} {a : Act} {Q : Exit → Act → World → Prop} {w : World} (hg : o.guard = none) (it : Operand)
    (hop : o.op = Op.next it false) (b r : Nat) (S : List (Nat × Nat)) (C : Nat × Nat → Prop) (hit : a.eval it = .pointer (some ⟨r, 0, none⟩)) (h : RngP w b r S C)
    (hDone : (∀ p, p ∈ S → C p) → wpList Tryz.prog ops Q rest (a.put o.dst (.tuple #[.bool false])) w)
    (hMore : ∀ p w', p ∈ S → (C p → RngP w' b r S C) → (∀ w0, Ext w0 w → w0.heap.size ≤ r → Ext w0 w') → w'.heap.size = w.heap.size → w'.rangeLeft b r < w.rangeLeft b r → (Instr.entry (.pointer (some ⟨r, 0, none⟩))).run Tryz.prog w' = .ok (.tuple #[pairV p, .bool true]) w' → wpList Tryz.prog ops Q rest (a.put o.dst (.tuple #[.bool true, pairV p, .bool true])) w') : wpList Tryz.prog ops Q (o :: rest) a w := by
  refine wpList_plain hg fun K' hK' => ?_
  obtain ⟨hs, hne, seen, hr, hC⟩ := h
  have hrl : r < w.heap.size := (Array.getElem?_eq_some_iff.1 hr).1
  unfold Oper.wp
  rcases run_next_at (P := Tryz.prog) w o.type r b S.length S.length seen (entP S) S.length hr hs.1 (fun x hx => (born_entP hx).1) (Nat.le_refl _) with ⟨h0, hrun⟩ | ⟨e, he, w1, hw1, hrun⟩
  · have hall : ∀ p, p ∈ S → C p := fun p hp => by
      obtain ⟨i, hi, rfl⟩ := List.mem_iff_getElem.1 hp
      rw [← atP_getElem _ _ hi]
      refine hC i hi ?_
      cases hc : seen.contains i with
      | true => rfl
      | false =>
        have : ({ key := pairV (atP S i), val := .bool true, born := i } : MapEntry) ∈ (leftOf (entP S) seen).toList := by
          unfold leftOf
          rw [Array.toList_filter, List.mem_filter]
          exact ⟨ent_mem hi, by simp only [hc]; rfl⟩
        have h1 : (leftOf (entP S) seen).toList.length = 0 := by rw [Array.length_toList]; exact h0
        rw [List.eq_nil_of_length_eq_zero h1] at this
        cases this
    simp [execOp, hop, hit, hrun, Result.andThen]
    exact hK' _ _ (hDone hall)
  · have hem : e ∈ (entP S).toList := by
      unfold leftOf at he
      rw [Array.toList_filter, List.mem_filter] at he
      exact he.1
    obtain ⟨hb1, hb2⟩ := born_entP hem
    have hX : ∀ w0, Ext w0 w → w0.heap.size ≤ r → Ext w0 (ChangeMaps.setBlock w1 r (.mapIter (some b) S.length (seen.push e.born) S.length)) := fun w0 x hz => by
      have x1 : Ext w0 w1 := by
        rcases hw1 with rfl | rfl
        · exact x
        · exact x.drew
      refine ⟨x1.os, x1.tape, x1.output, by simpa [ChangeMaps.setBlock] using x1.size, fun k hk => ?_⟩
      simp only [ChangeMaps.setBlock, Array.getElem?_setIfInBounds_ne (show r ≠ k by omega)]
      exact x1.block k hk
    have hz1 : w1.heap = w.heap := by rcases hw1 with rfl | rfl <;> rfl
    have hr2 : (ChangeMaps.setBlock w1 r (.mapIter (some b) S.length (seen.push e.born) S.length)).heap[r]? = some (.mapIter (some b) S.length (seen.push e.born) S.length) := by
      simp [ChangeMaps.setBlock, hz1, hrl]
    have hs2 : SetP (ChangeMaps.setBlock w1 r (.mapIter (some b) S.length (seen.push e.born) S.length)) b S := hs.kept (by simp [ChangeMaps.setBlock, hz1, hne])
    have hen := run_entry_at (P := Tryz.prog) _ r b S.length seen (entP S) S.length e hr2 hs2.1 hem (entL_nodup S 0).1
    rw [hb2] at hen
    have hk := hMore (atP S e.born) _ (by rw [atP_getElem _ _ hb1]; exact List.getElem_mem hb1) (fun hc => ⟨hs2, hne, _, hr2, fun i hi hcn => by
      by_cases h : i = e.born
      · subst h; exact hc
      · refine hC i hi ?_
        simpa [Array.mem_push, h] using hcn⟩) hX (by simp [ChangeMaps.setBlock, hz1]) (by rw [RngP.left hs2 hr2, RngP.left hs hr]; exact left_less he) hen
    rw [hb2] at hrun
    simp [execOp, hop, hit, hrun, Result.andThen]
    exact hK' _ _ hk
end Go.Proofs.YtlaamecfknkmlaaGreat
namespace Go.Proofs.YtlaamecfknkmlaaGreat
set_option linter.unusedVariables false
open Go.RowKit Go.Kt Go.Sort
theorem wp_quiet_lit {P : Program} {id : Nat} {Q : Exit → Act → World → Prop} {a : Act} {w : World} {ops : Array Oper} (hm : P.follows .mixedOrders = true) (hB : Region.lexB .any ops = true)
    (h : wpQuiet P ops (fun w' => ∃ p : Regrown, w' = grow (redrawn w p.d) p.os) (fun a' => ∀ w', (∃ p : Regrown, w' = grow (redrawn w p.d) p.os) → Q .normal a' w') ops.toList a) : (Code.region id ops true).wp P Q a w := by
  obtain ⟨l⟩ := ops
  exact wp_region_quiet_below hm hB h
theorem xor_zero {x y : Nat} (h : x ^^^ y = 0) : x = y := by
  apply Nat.eq_of_testBit_eq
  intro i
  have := Nat.testBit_xor x y i
  rw [h] at this
  simp at this
  exact this
theorem setB_inS (n : Nat) (x : Int) : setB n x = inS n x := by unfold setB inS; simp
theorem RngP.ext {w w' : World} {b r : Nat} {S : List (Nat × Nat)} {C : Nat × Nat → Prop} (h : RngP w b r S C) (x : Ext w w') : RngP w' b r S C ∧ w'.rangeLeft b r = w.rangeLeft b r := by
  obtain ⟨h1, h2, seen, h3, h4⟩ := h
  have hr := (Array.getElem?_eq_some_iff.1 h3).1
  have h3' : w'.heap[r]? = some (.mapIter (some b) S.length seen S.length) := (x.block r hr).trans h3
  exact ⟨⟨h1.ext x, h2, seen, h3', h4⟩, by rw [RngP.left (h1.ext x) h3', RngP.left h1 h3]⟩
set_option maxRecDepth 100000 in
set_option maxHeartbeats 8000000 in
theorem pairsOk_c (a b ar : Option Addr) (c d cr : Nat) (e f : List Int) (L : List (List Int)) (w : World) (he : IntsAt w a e) (hf : IntsAt w b f) (hL : RowsAt w ar L) (hle : e.length ≤ 4194304) (hlf : f.length ≤ 4194304) (hLl : L.length ≤ 4194304) :
    Calls Tryz.prog 11 #[.slice a e.length c, .slice b f.length d, .slice ar L.length cr] w fun r w' => r = .returned (.bool (okB e f L)) ∧ Ext w w' := by
  have CA : Hid (∀ w', Ext w w' → Calls Tryz.prog 55 #[.slice a e.length c, .slice b f.length d] w' (RetAs w' e f)) := fun w' x => autosOf_c a b c d e f w' (he.ext x) (hf.ext x) hle hlf
  clear he hf
  cases hb : (auB e && auB f)
  · have HF : Hid (okB e f L = false) := okB_off hb
    rw [HF.out]
    generalize e.length = ne at *
    generalize f.length = nf at *
    generalize L.length = n at *
    go_enter Tryz.func11, Tryz.ntmps11
    go_wp2_with fail
    refine (CA.out _ (by (repeat (first | exact Ext.refl _ | assumption | refine Ext.alloc ?_ _ | refine Ext.drewN ?_ _ | refine Ext.drew ?_)))).mono ?_
    rintro r w1 ⟨v, rfl, hv, x1⟩
    obtain ⟨a1, c1, a2, c2, b1, d1, b2, d2, rfl, -⟩ := hv
    rw [hb]
    go_wp2
    go_ret
    exact ⟨rfl, Ext.trans (show Ext w w1 by exact x1) (by (repeat (first | exact Ext.refl _ | assumption | refine Ext.alloc ?_ _ | refine Ext.drewN ?_ _ | refine Ext.drew ?_)))⟩
  by_cases h100 : L.length ≤ 100
  · have h1 : auB e = true := by rw [Bool.and_eq_true] at hb; exact hb.1
    have h2 : auB f = true := by rw [Bool.and_eq_true] at hb; exact hb.2
    have hA := auto_of e
    have hB := auto_of f
    have hten1 := hA.ten
    have hten2 := hB.ten
    have HBad : Hid (∀ k, k < L.length → rowB (auE e).length (auE f).length (rowI L k) = false → okB e f L = false) := fun k hk h => okB_bad hk h
    have HGood : Hid ((∀ j, j < L.length → rowB (auE e).length (auE f).length (rowI L j) = true) → okB e f L = (decide ((1, 1) ∈ rowsS L L.length) && (rowsS L L.length).all (chkB (auE e) (auE f) (auN e) (auN f) (rowsS L L.length)))) := fun h => okB_rows hb h100 h
    have HRl : Hid ((∀ j, j < L.length → rowB (auE e).length (auE f).length (rowI L j) = true) → ∀ p, p ∈ rowsS L L.length → p.1 < 4294967296 ∧ p.2 < 4294967296) := fun h p hp => by
      have := rowsS_lt (Nat.le_refl _) h p hp
      have := two_10 hA
      have := two_10 hB
      omega
    have CAp : Hid (∀ w' v (p : Nat × Nat), TogAt w' e f v → p.1 < 4294967296 → p.2 < 4294967296 → Calls Tryz.prog 57 #[v, .agg #[.int .i64 (p.1 : Nat), .int .i64 (p.2 : Nat)]] w' fun r w'' => r = .returned (.int .i64 ((img (auE e) p.1 ^^^ img (auE f) p.2 : Nat) : Int)) ∧ Ext w' w'') := fun w' v p hv hp hq => by
      obtain ⟨a1, c1, a2, c2, b1, d1, b2, d2, rfl, i1, i2, i3, i4⟩ := hv
      exact apart_c a1 a2 c1 _ c2 (auE e) (auN e) b1 b2 d1 _ d2 (auE f) (auN f) p.1 p.2 w' i1 hA i3 hB hp hq
    have CN : Hid (∀ w' v (p : Nat × Nat) m, TogAt w' e f v → p.1 < 4294967296 → p.2 < 4294967296 → m < 12 → Calls Tryz.prog 58 #[v, .agg #[.int .i64 (p.1 : Nat), .int .i64 (p.2 : Nat)], .int .i64 (m : Nat)] w' fun r w'' => r = .returned (.agg #[.int .i64 ((nxP (auN e) (auN f) p m).1 : Nat), .int .i64 ((nxP (auN e) (auN f) p m).2 : Nat)]) ∧ Ext w' w'') := fun w' v p m hv hp hq hm => by
      obtain ⟨a1, c1, a2, c2, b1, d1, b2, d2, rfl, i1, i2, i3, i4⟩ := hv
      exact next_c a1 a2 c1 c2 (auE e) (auN e) b1 b2 d1 d2 (auE f) (auN f) p.1 p.2 m w' i2 hA i4 hB hp hq hm
    clear hA hB h1 h2
    generalize okB e f L = OK at *
    obtain ⟨bL, offL, p1, q1⟩ := hL
    have P1 := Lib.hid p1
    have Q1 := Lib.hid q1
    clear p1 q1
    generalize hn : L.length = n at *
    have HN := Lib.hid hn
    clear hn
    generalize e.length = ne at *
    generalize f.length = nf at *
    have h100i : ¬ (100 < (n : Int)) := by omega
    have hmm := @run_makeMap Tryz.prog
    go_enter Tryz.func11, Tryz.ntmps11
    go_wp2_with fail
    refine (CA.out _ (by (repeat (first | exact Ext.refl _ | assumption | refine Ext.alloc ?_ _ | refine Ext.drewN ?_ _ | refine Ext.drew ?_)))).mono ?_
    rintro r w1 ⟨v, rfl, hv, x1⟩
    have HV := Lib.hid hv
    have X1 := Lib.hid x1
    obtain ⟨a1, c1, a2, c2, b1, d1, b2, d2, rfl, -⟩ := hv
    rw [hb]
    clear CA x1 hb
    generalize hEl : (auE e).length = nE at *
    generalize hNl : (auN e).length = nN at *
    generalize hFl : (auE f).length = nF at *
    generalize hMl : (auN f).length = nM at *
    clear hEl hNl hFl hMl
    generalize auN e = N at *
    generalize auN f = M at *
    generalize auE e = E at *
    generalize auE f = F at *
    go_wp2
    clear hmm
    have hS0 : Hid (SetP ((w1.alloc (.cells #[.slice a1 nE c1, .slice a2 nN c2, .slice b1 nF d1, .slice b2 nM d2] 65)).alloc (.map #[] 0)) (w1.heap.size + 1) []) := by
      unfold Hid
      have := SetP.made (w1.alloc (.cells #[.slice a1 nE c1, .slice a2 nN c2, .slice b1 nF d1, .slice b2 nM d2] 65))
      simpa using this
    go_loopw [30] (fun i wr => Hid (∃ k : Nat, k ≤ n ∧ i = .int .i64 k ∧ (∀ j, j < k → rowB nE nF (rowI L j) = true) ∧ SetP wr (w1.heap.size + 1) (rowsS L k) ∧ Ext (w1.alloc (.cells #[.slice a1 nE c1, .slice a2 nN c2, .slice b1 nF d1, .slice b2 nM d2] 65)) wr)) (fun i _ => n - (intOf i).toNat)
    case atStart => exact Lib.hid ⟨0, Nat.zero_le _, rfl, fun j hj => absurd hj (Nat.not_lt_zero _), hS0.out, (Ext.refl _).alloc _⟩
    case round =>
      obtain ⟨k, hk, rfl, hrows, hs, hx⟩ := hrel.out
      have HRows := Lib.hid hrows
      have HS := Lib.hid hs
      have HX := Lib.hid hx
      have hbx : BoxT w1.heap.size (.slice a1 nE c1) (.slice a2 nN c2) (.slice b1 nF d1) (.slice b2 nM d2) wr := BoxT.ext (w := w1.alloc (.cells #[.slice a1 nE c1, .slice a2 nN c2, .slice b1 nF d1, .slice b2 nM d2] 65)) (by simp [BoxT, go_sem]) hx
      have HBx := Lib.hid hbx
      have XW := Lib.hid (Ext.trans X1.out (Ext.trans ((Ext.refl _).alloc _) hx))
      clear hrel hrows hs hx hS0
      by_cases hlt : k < n
      · obtain ⟨rfl, hbL⟩ := P1.out (by omega)
        obtain ⟨ai, ci, r1, r2⟩ := Q1.out k hlt
        have r1' := XW.out.cell' r1 hbL
        have R2 := Lib.hid (r2.ext XW.out)
        have hki : (k : Int) < (n : Int) := by omega
        have HBk := Lib.hid (HBad.out k hlt)
        have HSk : Hid (rowsS L (k + 1) = addS (rowsS L k) (pairP (rowI L k))) := rfl
        clear r1 r2 hbx
        by_cases hl2 : (rowI L k).length = 2
        · obtain ⟨br, offr, u1, u2⟩ := R2.out
          obtain ⟨rfl, hbr⟩ := u1 (by omega)
          have e0 := u2 0 (by omega)
          rw [Nat.add_zero] at e0
          have e1 := u2 1 (by omega)
          clear u1 u2 R2
          have hrB : rowB nE nF (rowI L k) = (inS nE (nth (rowI L k) 0) && inS nF (nth (rowI L k) 1)) := by unfold rowB; rw [hl2]; rfl
          have HrB := Lib.hid hrB
          have cA : ∀ dd os, Calls Tryz.prog 56 #[autV a1 nE c1 a2 nN c2, .int .i64 (nth (rowI L k) 0)] (grow (redrawn wr dd) os) fun e w'' => e = .returned (.bool (inS nE (nth (rowI L k) 0))) ∧ ∃ p : Regrown, w'' = grow (redrawn wr p.d) p.os := fun dd os => Calls.regrown_of (by have := hasSet_c a1 a2 nE c1 nN c2 (nth (rowI L k) 0) (grow (redrawn wr dd) os) hten1; rw [setB_inS] at this; exact this)
          have cB : ∀ dd os, Calls Tryz.prog 56 #[autV b1 nF d1 b2 nM d2, .int .i64 (nth (rowI L k) 1)] (grow (redrawn wr dd) os) fun e w'' => e = .returned (.bool (inS nF (nth (rowI L k) 1))) ∧ ∃ p : Regrown, w'' = grow (redrawn wr p.d) p.os := fun dd os => Calls.regrown_of (by have := hasSet_c b1 b2 nF d1 nM d2 (nth (rowI L k) 1) (grow (redrawn wr dd) os) hten2; rw [setB_inS] at this; exact this)
          rw [hl2] at r1'
          have hp0 : inS nE (nth (rowI L k) 0) = true → nth (rowI L k) 0 = (((pairP (rowI L k)).1 : Nat) : Int) := fun h => by
            unfold inS at h; rw [decide_eq_true_eq] at h
            show _ = ((natAt (rowI L k) 0 : Nat) : Int)
            unfold natAt; omega
          have hp1 : inS nF (nth (rowI L k) 1) = true → nth (rowI L k) 1 = (((pairP (rowI L k)).2 : Nat) : Int) := fun h => by
            unfold inS at h; rw [decide_eq_true_eq] at h
            show _ = ((natAt (rowI L k) 1 : Nat) : Int)
            unfold natAt; omega
          have HP0 := Lib.hid hp0
          have HP1 := Lib.hid hp1
          clear hrB hp0 hp1
          generalize nth (rowI L k) 0 = x0 at *
          generalize nth (rowI L k) 1 = x1 at *
          generalize hs0 : inS nE x0 = s0 at *
          generalize hs1 : inS nF x1 = s1 at *
          clear hs0 hs1
          cases s0
          · go_wp2
            have kb0 := cell_regrown (HBx.out.1)
            have kb1 := cell_regrown (HBx.out.2.1)
            have kb2 := cell_regrown (HBx.out.2.2.1)
            have kb3 := cell_regrown (HBx.out.2.2.2)
            have kr0 := cell_regrown e0
            have kr1 := cell_regrown e1
            refine wp_quiet_lit (by kernel_rfl) (by kernel_rfl) ?_
            quiet_step (fail)
            repeat
              (with_reducible refine wpQuiet_step (fun K hK => ?_))
              go_simp
              first
                | (with_reducible refine hK _ ?_; clear hK K)
                | (apply Exists.intro
                   refine ⟨fun _ => ?_, hK _ ?_⟩
                   (go_at_call 56; first | with_reducible exact cA _ _ | with_reducible exact cB _ _)
                   clear hK K)
            (with_reducible refine wpQuiet_nil ?_)
            intro _ hw8
            obtain ⟨⟨dq, osq⟩, hw8⟩ := hw8
            subst hw8
            have X8 : Ext wr (grow (redrawn wr dq) osq) := below_regrown wr dq osq
            clear kb0 kb1 kb2 kb3
            generalize grow (redrawn wr dq) osq = w8 at *
            have HO := Lib.hid (HBk.out (by rw [HrB.out]; rfl))
            go_wp2
            go_ret
            exact ⟨by rw [HO.out]; rfl, XW.out.trans X8⟩
          · cases s1
            · go_wp2
              have kb0 := cell_regrown (HBx.out.1)
              have kb1 := cell_regrown (HBx.out.2.1)
              have kb2 := cell_regrown (HBx.out.2.2.1)
              have kb3 := cell_regrown (HBx.out.2.2.2)
              have kr0 := cell_regrown e0
              have kr1 := cell_regrown e1
              refine wp_quiet_lit (by kernel_rfl) (by kernel_rfl) ?_
              quiet_step (fail)
              repeat
                (with_reducible refine wpQuiet_step (fun K hK => ?_))
                go_simp
                first
                  | (with_reducible refine hK _ ?_; clear hK K)
                  | (apply Exists.intro
                     refine ⟨fun _ => ?_, hK _ ?_⟩
                     (go_at_call 56; first | with_reducible exact cA _ _ | with_reducible exact cB _ _)
                     clear hK K)
              (with_reducible refine wpQuiet_nil ?_)
              intro _ hw8
              obtain ⟨⟨dq, osq⟩, hw8⟩ := hw8
              subst hw8
              have X8 : Ext wr (grow (redrawn wr dq) osq) := below_regrown wr dq osq
              clear kb0 kb1 kb2 kb3
              generalize grow (redrawn wr dq) osq = w8 at *
              have HO := Lib.hid (HBk.out (by rw [HrB.out]; rfl))
              go_wp2
              go_ret
              exact ⟨by rw [HO.out]; rfl, XW.out.trans X8⟩
            · go_wp2
              have kb0 := cell_regrown (HBx.out.1)
              have kb1 := cell_regrown (HBx.out.2.1)
              have kb2 := cell_regrown (HBx.out.2.2.1)
              have kb3 := cell_regrown (HBx.out.2.2.2)
              have kr0 := cell_regrown e0
              have kr1 := cell_regrown e1
              refine wp_quiet_lit (by kernel_rfl) (by kernel_rfl) ?_
              quiet_step (fail)
              repeat
                (with_reducible refine wpQuiet_step (fun K hK => ?_))
                go_simp
                first
                  | (with_reducible refine hK _ ?_; clear hK K)
                  | (apply Exists.intro
                     refine ⟨fun _ => ?_, hK _ ?_⟩
                     (go_at_call 56; first | with_reducible exact cA _ _ | with_reducible exact cB _ _)
                     clear hK K)
              (with_reducible refine wpQuiet_nil ?_)
              intro _ hw8
              obtain ⟨⟨dq, osq⟩, hw8⟩ := hw8
              subst hw8
              have X8 : Ext wr (grow (redrawn wr dq) osq) := below_regrown wr dq osq
              clear kb0 kb1 kb2 kb3
              generalize grow (redrawn wr dq) osq = w8 at *
              have f0 := X8.cell' e0 hbr
              have f1 := X8.cell' e1 hbr
              rw [HP0.out (by trivial)] at f0
              rw [HP1.out (by trivial)] at f1
              have HrT : Hid (rowB nE nF (rowI L k) = true) := by unfold Hid; rw [HrB.out]; rfl
              have X8H := Lib.hid X8
              clear cA cB e0 e1 HP0 HP1 HrB HBk X8
              generalize pairP (rowI L k) = p at *
              obtain ⟨w9, hrun, s9, g9, z9⟩ := SetP.put_run (HS.out.ext ((X8H.out.drew))) p
              have S9 : Hid (SetP w9 (w1.heap.size + 1) (rowsS L (k + 1))) := by unfold Hid; rw [HSk.out]; exact s9
              have X9 : Hid (Ext (w1.alloc (.cells #[.slice a1 nE c1, .slice a2 nN c2, .slice b1 nF d1, .slice b2 nM d2] 65)) w9) := Ext.row (HX.out.trans X8H.out.drew) g9 (fun x hx => by have := Option.some.inj hx; simp; omega)
              clear s9 g9 z9
              go_wp2
              go_region
              all_goals
                go_wp2
                go_roundw
                case rel => exact Lib.hid ⟨k + 1, by omega, by go_num, fun j hj => by
                  by_cases ej : j = k
                  · subst ej; exact HrT.out
                  · exact HRows.out j (by omega), S9.out, X9.out⟩
                case measure => simp [intOf]; omega
        · have hl2i : (((rowI L k).length : Nat) : Int) ≠ 2 := by omega
          have hrB : rowB nE nF (rowI L k) = false := by unfold rowB; simp [hl2]
          have HO := Lib.hid (HBk.out hrB)
          clear hrB HBk
          have hl2b : ((((rowI L k).length : Nat) : Int) != 2) = true := by simp; omega
          generalize (rowI L k).length = lr at *
          go_wp2
          have kb0 := cell_regrown (HBx.out.1)
          have kb1 := cell_regrown (HBx.out.2.1)
          have kb2 := cell_regrown (HBx.out.2.2.1)
          have kb3 := cell_regrown (HBx.out.2.2.2)
          refine wp_quiet_lit (by kernel_rfl) (by kernel_rfl) ?_
          quiet_step (fail)
          repeat
            (with_reducible refine wpQuiet_step (fun K hK => ?_))
            go_simp
            first
              | (with_reducible refine hK _ ?_; clear hK K)
              | fail
          (with_reducible refine wpQuiet_nil ?_)
          intro _ hw8
          obtain ⟨⟨dq, osq⟩, hw8⟩ := hw8
          subst hw8
          have X8 : Ext wr (grow (redrawn wr dq) osq) := below_regrown wr dq osq
          clear kb0 kb1 kb2 kb3
          generalize grow (redrawn wr dq) osq = w8 at *
          go_wp2
          go_ret
          exact ⟨by rw [HO.out]; rfl, XW.out.trans X8⟩
      · obtain rfl : k = n := by omega
        have HG := HGood.out HRows.out
        have HR := Lib.hid (HRl.out HRows.out)
        clear HGood HRl HBad HRows
        have hki : ¬ ((k : Int) < (k : Int)) := by omega
        have hSl := rowsS_len L k
        generalize rowsS L k = S at *
        obtain ⟨wo, hwo⟩ : ∃ wo, wo = wr := ⟨_, rfl⟩
        subst hwo
        cases hone : decide ((1, 1) ∈ S)
        · rw [hone] at HG
          have HO : Hid (OK = false) := HG
          have hone' := Lib.hid hone
          clear HG hone
          go_wp2_with (refine wpList_look rfl _ _ rfl (w1.heap.size + 1) S (1, 1) rfl rfl HS.out false hone'.out ?_)
          go_ret
          exact ⟨by rw [HO.out]; rfl, XW.out⟩
        · rw [hone, Bool.true_and] at HG
          have HO : Hid (OK = S.all (chkB E F N M S)) := HG
          have hone' := Lib.hid hone
          clear HG hone
          go_wp2_with (first
            | (refine wpList_look rfl _ _ rfl (w1.heap.size + 1) S (1, 1) rfl rfl HS.out true hone'.out ?_)
            | (at_range; refine wpList_rangeP rfl _ rfl (w1.heap.size + 1) S (fun p => chkB E F N M S p = true) rfl HS.out ?_; intro w3 hr3 hx3 hz3))
          have HR3 := Lib.hid hr3
          have XR := Lib.hid hx3
          have HZ3 := Lib.hid hz3
          clear hr3 hx3 hz3 hki
          generalize hr0 : wo.heap.size = r0 at *
          have HR0 := Lib.hid hr0
          clear hr0
          go_loopw [70] (fun _ w4 => Hid (RngP w4 (w1.heap.size + 1) r0 S (fun p => chkB E F N M S p = true) ∧ Ext wo w4)) (fun _ w4 => w4.rangeLeft (w1.heap.size + 1) r0)
          case atStart => exact Lib.hid ⟨HR3.out, XR.out⟩
          case round =>
            obtain ⟨hrg, hx⟩ := hrel.out
            have HX4 := Lib.hid hx
            clear hrel HR3 XR HZ3
            go_wp2_with (at_next; refine wpList_nextP rfl _ rfl (w1.heap.size + 1) r0 S (fun p => chkB E F N M S p = true) rfl hrg (fun hall => ?doneG) (fun p w6 hpS hC hE hz6 hl6 hen => ?moreG); case' moreG => (clear hz6; have x6 := hE wo HX4.out (by rw [HR0.out]; exact Nat.le_refl _); obtain ⟨kb0, kb1, kb2, kb3⟩ := BoxT.ext HBx.out x6; have zb6 := lt_of_cell kb0))
            · skip
              have X6 := Lib.hid (hE wo HX4.out (by rw [HR0.out]; exact Nat.le_refl _))
              have HV6 := Lib.hid (HV.out.ext (Ext.trans ((Ext.refl _).alloc _) (HX.out.trans X6.out)))
              have hpb := HR.out p hpS
              have HC6 := Lib.hid hC
              have HL6 := Lib.hid hl6
              have HpS := Lib.hid hpS
              have CAp1 : Hid (∀ w', Ext w6 w' → Calls Tryz.prog 57 #[togV a1 nE c1 a2 nN c2 b1 nF d1 b2 nM d2, .agg #[.int .i64 (p.1 : Nat), .int .i64 (p.2 : Nat)]] w' fun r w'' => r = .returned (.int .i64 ((img E p.1 ^^^ img F p.2 : Nat) : Int)) ∧ Ext w' w'') := fun w' x => CAp.out w' _ p (HV6.out.ext x) hpb.1 hpb.2
              have CN1 : Hid (∀ w' m, Ext w6 w' → m < 12 → Calls Tryz.prog 58 #[togV a1 nE c1 a2 nN c2 b1 nF d1 b2 nM d2, .agg #[.int .i64 (p.1 : Nat), .int .i64 (p.2 : Nat)], .int .i64 (m : Nat)] w' fun r w'' => r = .returned (.agg #[.int .i64 ((nxP N M p m).1 : Nat), .int .i64 ((nxP N M p m).2 : Nat)]) ∧ Ext w' w'') := fun w' m x hm => CN.out w' _ p m (HV6.out.ext x) hpb.1 hpb.2 hm
              have HSm := Lib.hid (HS.out.ext X6.out)
              have hend : endB E F p = decide (img E p.1 = img F p.2) := rfl
              have hNo : Hid (chkB E F N M S p = false → OK = false) := fun h => by
                rw [HO.out, Bool.eq_false_iff]
                intro ha
                rw [List.all_eq_true] at ha
                have := ha p HpS.out
                rw [h] at this; cases this
              clear hrg hC hl6 hE hpS hpb x6
              by_cases he : img E p.1 = img F p.2
              · have hx0 : img E p.1 ^^^ img F p.2 = 0 := by rw [he]; exact Nat.xor_self _
                rw [hx0] at CAp1
                have HE2 : Hid (endB E F p = true) := by unfold Hid; rw [hend]; exact decide_eq_true he
                clear he hx0 hend
                refine (CAp1.out _ (by (repeat (first | exact Ext.refl _ | assumption | refine Ext.alloc ?_ _ | refine Ext.drewN ?_ _ | refine Ext.drew ?_ | refine Ext.setCell ?_ (by simp; try omega) _)))).mono ?_
                rintro r w7 ⟨rfl, x7⟩
                have kc0 := x7.cell' (show (w6.alloc (.cells #[.int .i64 (p.1 : Nat), .int .i64 (p.2 : Nat)] 71)).cell? ⟨w6.heap.size, 0, none⟩ = some (.int .i64 (p.1 : Nat)) by simp [go_sem]) (by simp)
                have kc1 := x7.cell' (show (w6.alloc (.cells #[.int .i64 (p.1 : Nat), .int .i64 (p.2 : Nat)] 71)).cell? ⟨w6.heap.size, 1, none⟩ = some (.int .i64 (p.2 : Nat)) by simp [go_sem]) (by simp)
                have X67 := Lib.hid (Ext.trans (show Ext w6 _ by (repeat (first | exact Ext.refl _ | assumption | refine Ext.alloc ?_ _ | refine Ext.drewN ?_ _ | refine Ext.drew ?_ | refine Ext.setCell ?_ (by simp; try omega) _))) x7)
                have HKC0 := Lib.hid kc0
                have HKC1 := Lib.hid kc1
                have zc := lt_of_cell kc0
                clear x7 kb0 kb1 kb2 kb3 kc0 kc1
                go_wp2
                obtain ⟨wv, hwv⟩ : ∃ wv, wv = wr := ⟨_, rfl⟩
                subst hwv
                go_loopw [78] (fun i w8 => Hid (∃ m : Nat, m ≤ 12 ∧ i = .int .i64 m ∧ (∀ j, j < m → nxP N M p j ∈ S) ∧ Ext w7 w8)) (fun i _ => 12 - (intOf i).toNat)
                case atStart => exact Lib.hid ⟨0, by omega, rfl, fun j hj => absurd hj (Nat.not_lt_zero _), by (repeat (first | exact Ext.refl _ | assumption | refine Ext.alloc ?_ _ | refine Ext.drewN ?_ _ | refine Ext.drew ?_))⟩
                case round =>
                  obtain ⟨m, hm, rfl, hin, hx8⟩ := hrel.out
                  have HIn := Lib.hid hin
                  have X8 := Lib.hid hx8
                  have X68 := Lib.hid (X67.out.trans hx8)
                  clear hrel hin hx8
                  by_cases hm12 : m < 12
                  · have hm12i : (m : Int) < 12 := by omega
                    obtain ⟨kb0, kb1, kb2, kb3⟩ := BoxT.ext HBx.out (X6.out.trans X68.out)
                    have kc0 := X8.out.cell' HKC0.out zc
                    have kc1 := X8.out.cell' HKC1.out zc
                    have CN2 : Hid (∀ w', Ext wr w' → Calls Tryz.prog 58 #[togV a1 nE c1 a2 nN c2 b1 nF d1 b2 nM d2, .agg #[.int .i64 (p.1 : Nat), .int .i64 (p.2 : Nat)], .int .i64 (m : Nat)] w' fun r w'' => r = .returned (.agg #[.int .i64 ((nxP N M p m).1 : Nat), .int .i64 ((nxP N M p m).2 : Nat)]) ∧ Ext w' w'') := fun w' x => CN1.out w' m (X68.out.trans x) hm12
                    have HNo2 : Hid (¬ nxP N M p m ∈ S → OK = false) := fun h => hNo.out (by
                      unfold chkB
                      rw [Bool.and_eq_false_iff]
                      right
                      rw [Bool.eq_false_iff]
                      intro ha
                      rw [List.all_eq_true] at ha
                      exact h (of_decide_eq_true (ha m (List.mem_range.2 hm12))))
                    have HIn2 : Hid (nxP N M p m ∈ S → ∀ j, j < m + 1 → nxP N M p j ∈ S) := fun h j hj => by
                      by_cases e : j = m
                      · subst e; exact h
                      · exact HIn.out j (by omega)
                    clear HIn
                    generalize nxP N M p m = q at *
                    by_cases hq : q ∈ S
                    · have hqb : Hid (decide (q ∈ S) = true) := decide_eq_true hq
                      have HI3 := Lib.hid (HIn2.out hq)
                      clear hq HIn2 HNo2
                      go_wp2_with (first
                        | (go_at_call 58; refine (CN2.out _ (by (repeat (first | exact Ext.refl _ | assumption | refine Ext.alloc ?_ _ | refine Ext.drewN ?_ _ | refine Ext.drew ?_)))).mono ?_; rintro e w9 ⟨rfl, x9⟩)
                        | (refine wpList_look rfl _ _ rfl (w1.heap.size + 1) S q rfl rfl (HSm.out.ext (X68.out.trans x9)) true hqb.out ?_))
                      go_roundw
                      case rel => exact Lib.hid ⟨m + 1, by omega, by go_num, HI3.out, X8.out.trans x9⟩
                      case measure => simp [intOf]; omega
                    · have hqb : Hid (decide (q ∈ S) = false) := decide_eq_false hq
                      have HO3 := Lib.hid (HNo2.out hq)
                      clear hq HIn2 HNo2
                      go_wp2_with (first
                        | (go_at_call 58; refine (CN2.out _ (by (repeat (first | exact Ext.refl _ | assumption | refine Ext.alloc ?_ _ | refine Ext.drewN ?_ _ | refine Ext.drew ?_)))).mono ?_; rintro e w9 ⟨rfl, x9⟩)
                        | (refine wpList_look rfl _ _ rfl (w1.heap.size + 1) S q rfl rfl (HSm.out.ext (X68.out.trans x9)) false hqb.out ?_))
                      go_ret
                      exact ⟨by rw [HO3.out]; rfl, XW.out.trans (X6.out.trans (X68.out.trans x9))⟩
                  · obtain rfl : m = 12 := by omega
                    have hchk : chkB E F N M S p = true := by
                      unfold chkB
                      rw [HE2.out, Bool.true_and, List.all_eq_true]
                      intro j hj
                      exact decide_eq_true (HIn.out j (List.mem_range.1 hj))
                    have HRg := Lib.hid ((HC6.out hchk).ext X68.out)
                    clear hchk HIn
                    go_wp2
                    go_roundw
                    case rel => exact Lib.hid ⟨HRg.out.1, X6.out.trans X68.out⟩
                    case measure => rw [HRg.out.2]; exact HL6.out
              · have hxn : 0 < img E p.1 ^^^ img F p.2 := by
                  rcases Nat.eq_zero_or_pos (img E p.1 ^^^ img F p.2) with h | h
                  · exact absurd (xor_zero h) he
                  · exact h
                have HO2 : Hid (OK = false) := hNo.out (by unfold chkB; rw [hend, decide_eq_false he]; rfl)
                clear he hend
                generalize img E p.1 ^^^ img F p.2 = xx at *
                have hxi : ((xx : Int) != 0) = true := by simp; omega
                refine (CAp1.out _ (by (repeat (first | exact Ext.refl _ | assumption | refine Ext.alloc ?_ _ | refine Ext.drewN ?_ _ | refine Ext.drew ?_ | refine Ext.setCell ?_ (by simp; try omega) _)))).mono ?_
                rintro r w7 ⟨rfl, x7⟩
                have X7 := Lib.hid (XW.out.trans (X6.out.trans (Ext.trans (show Ext w6 _ by (repeat (first | exact Ext.refl _ | assumption | refine Ext.alloc ?_ _ | refine Ext.drewN ?_ _ | refine Ext.drew ?_ | refine Ext.setCell ?_ (by simp; try omega) _))) x7)))
                clear x7
                go_wp2
                go_ret
                exact ⟨by rw [HO2.out]; rfl, X7.out⟩
            · skip
              have HT : Hid (OK = true) := by unfold Hid; rw [HO.out, List.all_eq_true]; exact hall
              clear hall hrg
              go_wp2
              go_ret
              exact ⟨by rw [HT.out]; rfl, XW.out.trans HX4.out⟩
  · have HF : Hid (okB e f L = false) := okB_many (by omega)
    rw [HF.out]
    have h100i : (100 : Int) < (L.length : Int) := by omega
    generalize e.length = ne at *
    generalize f.length = nf at *
    generalize L.length = n at *
    go_enter Tryz.func11, Tryz.ntmps11
    go_wp2_with fail
    refine (CA.out _ (by (repeat (first | exact Ext.refl _ | assumption | refine Ext.alloc ?_ _ | refine Ext.drewN ?_ _ | refine Ext.drew ?_)))).mono ?_
    rintro r w1 ⟨v, rfl, hv, x1⟩
    obtain ⟨a1, c1, a2, c2, b1, d1, b2, d2, rfl, -⟩ := hv
    rw [hb]
    go_wp2
    go_ret
    exact ⟨rfl, Ext.trans (show Ext w w1 by exact x1) (by (repeat (first | exact Ext.refl _ | assumption | refine Ext.alloc ?_ _ | refine Ext.drewN ?_ _ | refine Ext.drew ?_)))⟩
end Go.Proofs.YtlaamecfknkmlaaGreat
