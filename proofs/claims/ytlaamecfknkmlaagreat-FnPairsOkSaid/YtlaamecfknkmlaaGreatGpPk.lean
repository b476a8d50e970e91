/- Merged texts: contracts and plain lemmas (Pk). -/
import Derived.Test.YtlaamecfknkmlaaGreatGp6
import Derived.Test.YtlaamecfknkmlaaGreatGpSp
import Derived.BigQuiet
namespace Go.Kt
set_option linter.unusedVariables false
/-- A slice of n numbers is one still, if one cell turns to another number. -/
theorem HasN.set {w : World} {a : Option Addr} {n c g : Nat} (h : HasN w a n c) (hg : ∃ v, w.cell? ⟨g, 1, none⟩ = some v) (q : Int) : HasN (w.setCell ⟨g, 1, none⟩ (.int .i64 q)) a n c := by
  obtain ⟨h1, L, rfl, ⟨b, off, k1, k2⟩, k3⟩ := h
  obtain ⟨p, hp⟩ := hg
  have hn : ∀ i, i < L.length → nth ((List.range L.length).map fun i => if b = g ∧ off + i = 1 then q else nth L i) i = if b = g ∧ off + i = 1 then q else nth L i := fun i hi => by
    rw [nth_getElem _ _ (by simpa using hi)]; simp
  refine ⟨h1, (List.range L.length).map fun i => if b = g ∧ off + i = 1 then q else nth L i, by simp, ⟨b, off, fun h0 => ?_, fun i hi => ?_⟩, fun b' o' h0 ha => ?_⟩
  · obtain ⟨e1, e2⟩ := k1 (by simpa using h0)
    exact ⟨e1, by simpa using e2⟩
  · have hi' : i < L.length := by simpa using hi
    rw [hn i hi']
    have hc := k2 i hi'
    by_cases hb : b = g
    · subst hb
      by_cases ho : off + i = 1
      · rw [if_pos ⟨rfl, ho⟩, ho]
        simp [go_sem, hp]
      · rw [if_neg (fun e => ho e.2)]
        first | (simp [go_sem]; done) | (simp [go_sem]; exact hc)
    · rw [if_neg (fun e => hb e.1)]
      exact (World.cell?_of_block (a := ⟨b, off + i, none⟩) (heap_setCell_other w ⟨g, 1, none⟩ b (.int .i64 q) (fun e => hb e))).trans hc
  · obtain ⟨⟨cs, fz, hc⟩, hx⟩ := k3 b' o' (by simpa using h0) ha
    refine ⟨?_, hx⟩
    by_cases hb : b' = g
    · subst hb; exact Go.Proofs.YtlaamecfknkmlaaGreat.typed_put ⟨cs, fz, hc⟩ 1 _
    · exact ⟨cs, fz, (heap_setCell_other w ⟨g, 1, none⟩ b' (.int .i64 q) (fun e => hb e)).trans hc⟩
theorem HasN.kept {w w' : World} {a : Option Addr} {n c ER : Nat} {row : Option Nat} (h : HasN w a n c) (hg : w.grownBy w' row) (hr : ∀ k, row = some k → ∃ cs fz, w.heap[k]? = some (.cells cs ER fz)) (hE : 3 ≠ ER) : HasN w' a n c := by
  obtain ⟨h1, L, h2, h3⟩ := h
  exact ⟨h1, L, h2, h3.kept hg hr hE⟩
theorem OwnLs.setG {w : World} {B : Nat} {E : Ek} {ER : Nat} {v : Value} {ll : List (List Int)} {g : Nat} (h : OwnLs w B E ER v ll) (hX : E.X g) (hg : g < B) (u : Value) : OwnLs (w.setCell ⟨g, 1, none⟩ u) B E ER v ll := by
  refine h.keptX (grown_put1 w g 1 u) (fun k hk => by rw [← Option.some.inj hk]; exact hX) ?_
  cases hv : v.ownBlock with
  | none => exact .inl rfl
  | some k => refine .inr fun e => ?_; have := h.lt k hv; have := Option.some.inj e; omega
/-- A list of lists of numbers, wherever it lies. -/
def RowsE (w : World) (a : Option Addr) (ll : List (List Int)) : Prop := ∃ b off, (0 < ll.length → a = some ⟨b, off, none⟩ ∧ b < w.heap.size) ∧
    ∀ i, i < ll.length → ∃ ai ci, w.cell? ⟨b, off + i, none⟩ = some (.slice ai (rowI ll i).length ci) ∧ (rowI ll i).length ≤ ci ∧ IntsE w (ek 3) ai (rowI ll i)
theorem RowsE.rows {w : World} {a : Option Addr} {ll : List (List Int)} (h : RowsE w a ll) : RowsAt w a ll := by
  obtain ⟨b, off, h1, h2⟩ := h
  exact ⟨b, off, h1, fun i hi => let ⟨ai, ci, k1, _, k3⟩ := h2 i hi; ⟨ai, ci, k1, k3.1⟩⟩
theorem RowsE.ext {w w' : World} {a : Option Addr} {ll : List (List Int)} (h : RowsE w a ll) (e : Ext w w') : RowsE w' a ll := by
  obtain ⟨b, off, h1, h2⟩ := h
  refine ⟨b, off, fun h0 => ⟨(h1 h0).1, Nat.lt_of_lt_of_le (h1 h0).2 e.size⟩, fun i hi => ?_⟩
  obtain ⟨ai, ci, k1, k2, k3⟩ := h2 i hi
  exact ⟨ai, ci, e.cell' k1 (h1 (by omega)).2, k2, k3.ext e⟩
theorem OwnLs.rowsE {w : World} {B : Nat} {X : Nat → Prop} {ER n cap : Nat} {a : Option Addr} {ll : List (List Int)} (h : OwnLs w B ⟨3, X⟩ ER (.slice a n cap) ll) : RowsE w a ll := by
  by_cases hl : 0 < ll.length
  · obtain ⟨g, rfl, _, hg, _, hr⟩ := h.row hl
    refine ⟨g, 0, fun _ => ⟨rfl, hg⟩, fun i hi => ?_⟩
    obtain ⟨ai, ci, h1, h2, h3⟩ := hr i hi
    exact ⟨ai, ci, by rw [Nat.zero_add]; exact h1, h2, h3.wk (fun _ _ h => h.elim)⟩
  · exact ⟨0, 0, fun h => absurd h hl, fun i hi => absurd hi (by omega)⟩
theorem RowsE.take {w : World} {a : Option Addr} {ll : List (List Int)} (h : RowsE w a ll) (k : Nat) : RowsE w a (ll.take k) := by
  obtain ⟨b, off, h1, h2⟩ := h
  have hl : (ll.take k).length ≤ ll.length := by rw [List.length_take]; omega
  refine ⟨b, off, fun h0 => h1 (by omega), fun i hi => ?_⟩
  have hi' : i < ll.length := by omega
  have e : rowI (ll.take k) i = rowI ll i := by
    rw [rowI_getElem _ _ hi, rowI_getElem _ _ hi']; simp
  rw [e]; exact h2 i hi'
end Go.Kt
namespace Go.Proofs.YtlaamecfknkmlaaGreat
set_option linter.unusedVariables false
open Go.RowKit Go.Kt
def DrewS (w : World) (g m : Nat) (n : Int) (e : Ending) (w' : World) : Prop :=
  ∃ (x : Nat) (q : Int), e = .returned (.int .i64 x) ∧ ((x : Int) < n ∨ (n < 1 ∧ x = 0)) ∧ Ext (w.setCell ⟨g, 1, none⟩ (.int .i64 q)) w' ∧ Rd w' g (m + 1) ∧ Touched w w' g (g + 1)
set_option maxHeartbeats 1000000 in
theorem pickS_c (g m : Nat) (n : Int) (w : World) (h : Rd w g m) (hm : m ≤ 1000000) :
    Calls Tryz.prog 54 #[.pointer (some ⟨g, 0, none⟩), .int .i64 n] w (DrewS w g m n) := by
  have H := Lib.hid h
  obtain ⟨p, hp, hc⟩ := h.pos
  obtain ⟨a, cap, l, b, off, h1, h2, h3, h4⟩ := h.src
  have hg := h.lt
  have hf := h.thaw.2 1
  have H3 := Lib.hid h3
  have H4 := Lib.hid h4
  have HD : Hid (Rd (w.setCell ⟨g, 1, none⟩ (.int .i64 ((p + 1 : Nat) : Int))) g (m + 1) ∧ Touched w (w.setCell ⟨g, 1, none⟩ (.int .i64 ((p + 1 : Nat) : Int))) g (g + 1)) := ⟨h.set _ _ (by omega), Touched.setCell _ _ _⟩
  have hcast : (((p + 1 : Nat)) : Int) = (p : Int) + 1 := by omega
  rw [hcast] at HD
  clear h h3 h4 hcast
  by_cases hn : n < 1
  · go_enter Tryz.func54, Tryz.ntmps54
    go_wp2
    go_ret
    exact ⟨0, (p : Int) + 1, rfl, .inr ⟨hn, rfl⟩, Ext.refl _, HD.out.1, HD.out.2⟩
  · by_cases hl : l.length = 0
    · go_enter Tryz.func54, Tryz.ntmps54
      go_wp2
      go_ret
      exact ⟨0, (p : Int) + 1, rfl, .inl (by omega), Ext.refl _, HD.out.1, HD.out.2⟩
    · obtain ⟨N, rfl⟩ := Int.eq_ofNat_of_zero_le (show 0 ≤ n by omega)
      have hN : 0 < N := by omega
      obtain ⟨rfl, hbg⟩ := H3.out (by omega)
      have hbne : ¬ b = g := by omega
      by_cases hk : p < l.length
      · obtain ⟨hcb, hb0, hb1⟩ := H4.out p hk
        obtain ⟨B, hB⟩ := Int.eq_ofNat_of_zero_le hb0
        rw [hB] at hcb hb1
        have hB1 : B ≤ 255 := by omega
        have ht : ((B : Int)).tmod (N : Int) = ((B % N : Nat) : Int) := rfl
        have hlt : B % N < N := Nat.mod_lt _ hN
        have hN0 : ((N : Int) == 0) = false := by simp; omega
        clear hB hb0 hb1
        go_enter Tryz.func54, Tryz.ntmps54
        go_wp2
        go_ret
        exact ⟨B % N, (p : Int) + 1, rfl, .inl (by omega), Ext.refl _, HD.out.1, HD.out.2⟩
      · have hL : 0 < l.length := by omega
        have hL0 : ((l.length : Int) == 0) = false := by rw [beq_eq_false_iff_ne]; omega
        have hN0 : ((N : Int) == 0) = false := by simp; omega
        have hi1 : p % l.length < l.length := Nat.mod_lt _ hL
        have hi2 : (p * 7 + 3) % l.length < l.length := Nat.mod_lt _ hL
        have hq : p / l.length ≤ p := Nat.div_le_self _ _
        have e1 : ((p : Int)).tmod (l.length : Int) = ((p % l.length : Nat) : Int) := rfl
        have e2 : ((p : Int) * 7 + 3).tmod (l.length : Int) = (((p * 7 + 3) % l.length : Nat) : Int) := rfl
        have e3 : ((p : Int)).tdiv (l.length : Int) = ((p / l.length : Nat) : Int) := rfl
        obtain ⟨hc1, hb10, hb11⟩ := H4.out _ hi1
        obtain ⟨hc2, hb20, hb21⟩ := H4.out _ hi2
        obtain ⟨X1, hX1⟩ := Int.eq_ofNat_of_zero_le hb10
        obtain ⟨X2, hX2⟩ := Int.eq_ofNat_of_zero_le hb20
        rw [hX1] at hc1 hb11
        rw [hX2] at hc2 hb21
        have hx1 : X1 ≤ 255 := by omega
        have hx2 : X2 ≤ 255 := by omega
        clear hX1 hX2 hb10 hb11 hb20 hb21
        generalize p % l.length = i1 at *
        generalize (p * 7 + 3) % l.length = i2 at *
        generalize p / l.length = q at *
        have f1 : IntKind.i64.wrap ((p : Int) * 7) = (p : Int) * 7 := IntWalk.i64_in _ (by omega)
        have f2 : IntKind.i64.wrap ((p : Int) * 7 + 3) = (p : Int) * 7 + 3 := IntWalk.i64_in _ (by omega)
        have f3 : IntKind.i64.wrap ((X1 : Int) * 131) = (X1 : Int) * 131 := IntWalk.i64_in _ (by omega)
        have f4 : IntKind.i64.wrap ((X2 : Int) * 1117) = (X2 : Int) * 1117 := IntWalk.i64_in _ (by omega)
        have f5 : IntKind.i64.wrap ((X1 : Int) * 131 + (X2 : Int) * 1117) = (X1 : Int) * 131 + (X2 : Int) * 1117 := IntWalk.i64_in _ (by omega)
        have f6 : IntKind.i64.wrap ((p : Int) * 29) = (p : Int) * 29 := IntWalk.i64_in _ (by omega)
        have f7 : IntKind.i64.wrap ((X1 : Int) * 131 + (X2 : Int) * 1117 + (p : Int) * 29) = (X1 : Int) * 131 + (X2 : Int) * 1117 + (p : Int) * 29 := IntWalk.i64_in _ (by omega)
        have f8 : IntKind.i64.wrap ((q : Int) * 53) = (q : Int) * 53 := IntWalk.i64_in _ (by omega)
        obtain ⟨T, hT⟩ : ∃ T : Nat, T = X1 * 131 + X2 * 1117 + p * 29 + q * 53 := ⟨_, rfl⟩
        have f9 : IntKind.i64.wrap ((X1 : Int) * 131 + (X2 : Int) * 1117 + (p : Int) * 29 + (q : Int) * 53) = (T : Int) := by
          rw [IntWalk.i64_in _ (by omega)]; omega
        have hTb : T < 4294967296 := by omega
        have f10 : ((T : Int)).tdiv 64 = ((T / 64 : Nat) : Int) := rfl
        have hTd : T / 64 < 4294967296 := by omega
        have hY : T ^^^ (T / 64) < 4294967296 := Nat.xor_lt_two_pow (n := 32) hTb hTd
        have f11 := i64_xor T (T / 64) (by omega) (by omega)
        generalize T / 64 = T64 at *
        generalize T ^^^ T64 = Y at *
        have f12 : ((Y : Int)).tmod (N : Int) = ((Y % N : Nat) : Int) := rfl
        have hlt : Y % N < N := Nat.mod_lt _ hN
        clear hT
        go_enter Tryz.func54, Tryz.ntmps54
        go_wp2
        go_quiet (fail)
        go_wp2
        go_ret
        exact ⟨Y % N, (p : Int) + 1, rfl, .inl (by omega), (by (repeat (first | exact Ext.refl _ | assumption | refine Ext.alloc ?_ _ | refine Ext.drewN ?_ _ | refine Ext.drew ?_))), HD.out.1.ext (by (repeat (first | exact Ext.refl _ | assumption | refine Ext.alloc ?_ _ | refine Ext.drewN ?_ _ | refine Ext.drew ?_))), HD.out.2.trans (Touched.of_ext (by (repeat (first | exact Ext.refl _ | assumption | refine Ext.alloc ?_ _ | refine Ext.drewN ?_ _ | refine Ext.drew ?_))))⟩

/-- Two expressions and pairs, drawn from bytes. -/
def DrewPk (w : World) (e : Ending) (w' : World) : Prop :=
  ∃ (a1 a2 ar : Option Addr) (n1 c1 n2 c2 cr : Nat) (L : List (List Int)), e = .returned (.tuple #[.slice a1 n1 c1, .slice a2 n2 c2, .slice ar L.length cr]) ∧ HasN w' a1 n1 c1 ∧ HasN w' a2 n2 c2 ∧ RowsE w' ar L ∧ n1 ≤ 60 ∧ n2 ≤ 60 ∧ L.length ≤ 101 ∧ Ext w w'
set_option maxRecDepth 100000 in
set_option maxHeartbeats 4000000 in
theorem drawPairsOk_c (a : Option Addr) (cap : Nat) (l : List Int) (w : World) (h : BytesAt w a l) (hlen : l.length ≤ 1048576) (hcap : l.length ≤ cap) :
    Calls Tryz.prog 10 #[.slice a l.length cap] w (DrewPk w) := by
  go_enter Tryz.func10, Tryz.ntmps10
  go_wp2_with fail
  refine (l20Open_c a cap l _ (h.ext (by (repeat (first | exact Ext.refl _ | assumption | refine Ext.alloc ?_ _ | refine Ext.drewN ?_ _ | refine Ext.drew ?_)))) hlen hcap).mono ?_
  rintro e w1 ⟨g, rfl, hg, hr0, hx0⟩
  have hz0 := hx0.size
  go_wp2_with fail
  refine (l20Laws_c g 0 _ (hr0.ext (by (repeat (first | exact Ext.refl _ | assumption | refine Ext.alloc ?_ _ | refine Ext.drewN ?_ _ | refine Ext.drew ?_)))) (by omega)).mono ?_
  rintro e w2 ⟨a1, a2, n1, c1, n2, c2, rfl, k1, k2, h1, h2, hr2, ht2⟩
  have hz2 := ht2.size
  have X2 := Lib.hid (ht2.ext (Ext.trans hx0 (by (repeat (first | exact Ext.refl _ | assumption | refine Ext.alloc ?_ _ | refine Ext.drewN ?_ _ | refine Ext.drew ?_)))) (by omega))
  have hgz := hr2.lt
  have HR2 := Lib.hid hr2
  have K1 := Lib.hid k1
  have K2 := Lib.hid k2
  have hgw : w.heap.size ≤ g := by omega
  obtain ⟨-, L1, hL1, i1⟩ := k1
  obtain ⟨-, L2, hL2, i2⟩ := k2
  have CP : Hid (∀ w', Ext w2 w' → Calls Tryz.prog 53 #[.slice a1 n1 c1, .slice a2 n2 c2] w' (RetLs (Ek.mk 3 (fun k => k < w'.heap.size)) 23 w' (prsF L1 L2))) := fun w' x => by
    rw [← hL1, ← hL2]
    exact sPairsOf_c a1 a2 c1 c2 L1 L2 w' (i1.ext x).1 (i2.ext x).1 (by omega) (by omega) _ (fun _ h => h)
  have hpl := prsF_length L1 L2
  clear h hr0 hx0 hr2 ht2 i1 i2 hL1 hL2 hz0 hz2
  generalize prsF L1 L2 = P at *
  go_wp2_with fail
  refine (CP.out _ (by (repeat (first | exact Ext.refl _ | assumption | refine Ext.alloc ?_ _ | refine Ext.drewN ?_ _ | refine Ext.drew ?_)))).mono ?_
  rintro e w3 ⟨vP, rfl, oP, x3⟩
  obtain ⟨aP, cP, rfl⟩ := oP.shape
  have OP := Lib.hid oP
  have X23 := Lib.hid (Ext.trans (show Ext w2 _ by (repeat (first | exact Ext.refl _ | assumption | refine Ext.alloc ?_ _ | refine Ext.drewN ?_ _ | refine Ext.drew ?_))) x3)
  have hz3 := X23.out.size
  clear oP x3 CP
  go_wp2_with fail
  refine (pickS_c g 1300 5 _ (HR2.out.ext (X23.out.trans (by (repeat (first | exact Ext.refl _ | assumption | refine Ext.alloc ?_ _ | refine Ext.drewN ?_ _ | refine Ext.drew ?_))))) (by omega)).mono ?_
  rintro e w4 ⟨x, q, rfl, hx, xs, hr4, ht4⟩
  have R4 := Lib.hid hr4
  have hcell := Lib.hid (show ∃ v, w3.cell? ⟨g, 1, none⟩ = some v from let ⟨p, _, hp⟩ := (HR2.out.ext X23.out).pos; ⟨_, hp⟩)
  have E4 := Lib.hid (((K1.out.ext X23.out).set hcell.out q).ext xs)
  have F4 := Lib.hid (((K2.out.ext X23.out).set hcell.out q).ext xs)
  have O4 := Lib.hid ((OP.out.setG (g := g) (by show g < _; omega) (by omega) (.int .i64 q)).ext xs)
  have X4 := Lib.hid (ht4.ext (X2.out.trans X23.out) hgw)
  have hz4 := ht4.size
  clear hr4 xs ht4 OP K1 K2 HR2 hcell
  generalize hnp : P.length = np at *
  have HNP := Lib.hid hnp
  clear hnp
  by_cases hx0 : x = 0
  · subst hx0
    by_cases hl : 0 < np
    · have hli : (0 : Int) < (np : Int) := by omega
      have hw1 : IntKind.i64.wrap ((np : Int) - 1) = ((np - 1 : Nat) : Int) := by rw [IntWalk.i64_in _ (by omega)]; omega
      obtain ⟨gP, rfl, -⟩ := O4.out.row (by have := HNP.out; omega)
      have hfit : Hid (np ≤ cP) := by have := O4.out.fit; have := HNP.out; unfold Hid; omega
      have hfi : ((np - 1 : Nat) : Int) ≤ (cP : Int) := by have := hfit.out; omega
      have hfn : np - 1 ≤ cP := by have := hfit.out; omega
      have hlt : Hid ((P.take (np - 1)).length = np - 1) := by unfold Hid; rw [List.length_take]; have := HNP.out; omega
      go_wp2
      go_quiet (fail)
      go_wp2
      go_ret3
      exact ⟨a1, a2, some ⟨gP, 0, none⟩, n1, c1, n2, c2, cP, P.take (np - 1), by rw [hlt.out]; rfl, E4.out.ext (by (repeat (first | exact Ext.refl _ | assumption | refine Ext.alloc ?_ _ | refine Ext.drewN ?_ _ | refine Ext.drew ?_))), F4.out.ext (by (repeat (first | exact Ext.refl _ | assumption | refine Ext.alloc ?_ _ | refine Ext.drewN ?_ _ | refine Ext.drew ?_))), (O4.out.rowsE.take _).ext (by (repeat (first | exact Ext.refl _ | assumption | refine Ext.alloc ?_ _ | refine Ext.drewN ?_ _ | refine Ext.drew ?_))), h1, h2, by rw [hlt.out]; omega, X4.out.trans (by (repeat (first | exact Ext.refl _ | assumption | refine Ext.alloc ?_ _ | refine Ext.drewN ?_ _ | refine Ext.drew ?_)))⟩
    · have hli : ¬ ((0 : Int) < (np : Int)) := by omega
      go_wp2
      go_ret3
      exact ⟨a1, a2, aP, n1, c1, n2, c2, cP, P, by rw [HNP.out]; rfl, E4.out.ext (by (repeat (first | exact Ext.refl _ | assumption | refine Ext.alloc ?_ _ | refine Ext.drewN ?_ _ | refine Ext.drew ?_))), F4.out.ext (by (repeat (first | exact Ext.refl _ | assumption | refine Ext.alloc ?_ _ | refine Ext.drewN ?_ _ | refine Ext.drew ?_))), O4.out.rowsE.ext (by (repeat (first | exact Ext.refl _ | assumption | refine Ext.alloc ?_ _ | refine Ext.drewN ?_ _ | refine Ext.drew ?_))), h1, h2, by rw [HNP.out]; omega, X4.out.trans (by (repeat (first | exact Ext.refl _ | assumption | refine Ext.alloc ?_ _ | refine Ext.drewN ?_ _ | refine Ext.drew ?_)))⟩
  · by_cases hx1 : x = 1
    · subst hx1
      go_wp2_with fail
      refine (pickS_c g 1301 4 _ (R4.out.ext (by (repeat (first | exact Ext.refl _ | assumption | refine Ext.alloc ?_ _ | refine Ext.drewN ?_ _ | refine Ext.drew ?_)))) (by omega)).mono ?_
      rintro e w5 ⟨x5, q5, rfl, hx5, xs5, hr5, ht5⟩
      have R5 := Lib.hid hr5
      have hcell := Lib.hid (show ∃ v, w4.cell? ⟨g, 1, none⟩ = some v from let ⟨p, _, hp⟩ := R4.out.pos; ⟨_, hp⟩)
      have E5 := Lib.hid ((E4.out.set hcell.out q5).ext xs5)
      have F5 := Lib.hid ((F4.out.set hcell.out q5).ext xs5)
      have O5 := Lib.hid ((O4.out.setG (g := g) (by show g < _; omega) (by omega) (.int .i64 q5)).ext xs5)
      have X5 := Lib.hid (ht5.ext X4.out hgw)
      have hz5 := ht5.size
      clear hr5 xs5 ht5 E4 F4 O4 R4 hcell
      go_wp2_with fail
      refine (pickS_c g 1302 4 _ (R5.out.ext (by (repeat (first | exact Ext.refl _ | assumption | refine Ext.alloc ?_ _ | refine Ext.drewN ?_ _ | refine Ext.drew ?_)))) (by omega)).mono ?_
      rintro e w6 ⟨x6, q6, rfl, hx6, xs6, hr6, ht6⟩
      have hcell := Lib.hid (show ∃ v, w5.cell? ⟨g, 1, none⟩ = some v from let ⟨p, _, hp⟩ := R5.out.pos; ⟨_, hp⟩)
      have E6 := Lib.hid ((E5.out.set hcell.out q6).ext xs6)
      have F6 := Lib.hid ((F5.out.set hcell.out q6).ext xs6)
      have O6 := Lib.hid ((O5.out.setG (g := g) (by show g < _; omega) (by omega) (.int .i64 q6)).ext xs6)
      have X6 := Lib.hid (ht6.ext X5.out hgw)
      have hz6 := ht6.size
      clear hr6 xs6 ht6 E5 F5 O5 R5 hcell
      have HI : Hid (IntsE (w6.alloc (.cells #[.int .i64 (x5 : Int), .int .i64 (x6 : Int)] 3)) (Ek.mk 3 (fun k => k < w2.heap.size)) (some ⟨w6.heap.size, 0, none⟩) [(x5 : Int), (x6 : Int)]) :=
        OwnI.intsX (OwnI.lit2 w6 w6.heap.size 3 _ _ (Nat.le_refl _)) (fun k hB _ hx => by omega)
      go_wp2_with (at_builtin; refine any_append_lsA (by rfl) _ _ _ rfl w2.heap.size (Ek.mk 3 (fun k => k < w2.heap.size)) 23 neE Tryz.underlying24 infoInts (.slice aP np cP) P rfl (O6.out.ext (by (repeat (first | exact Ext.refl _ | assumption | refine Ext.alloc ?_ _ | refine Ext.drewN ?_ _ | refine Ext.drew ?_)))) _ (some ⟨w6.heap.size, 0, none⟩) 2 [(x5 : Int), (x6 : Int)] rfl (by simp [go_sem]) (HI.out.ext (by (repeat (first | exact Ext.refl _ | assumption | refine Ext.alloc ?_ _ | refine Ext.drewN ?_ _ | refine Ext.drew ?_)))) (by simp) (by have := HNP.out; omega) (by simp; omega) ?_)
      intro v7 w7 o7 g7 t7
      obtain ⟨a7, c7, rfl⟩ := o7.shape
      have X7 := Lib.hid (Ext.row (w0 := w) (X6.out.trans (by (repeat (first | exact Ext.refl _ | assumption | refine Ext.alloc ?_ _ | refine Ext.drewN ?_ _ | refine Ext.drew ?_)))) g7 (fun k hk => by have := O6.out.lt k hk; have := X2.out.size; omega))
      have hty : ∀ k, (Value.slice aP np cP).ownBlock = some k → ∃ cs fz, ((w6.alloc (.cells #[.int .i64 (x5 : Int), .int .i64 (x6 : Int)] 3)).alloc (.cells #[.slice (some ⟨w6.heap.size, 0, none⟩) 2 2] 23)).heap[k]? = some (.cells cs 23 fz) := (O6.out.ext (by (repeat (first | exact Ext.refl _ | assumption | refine Ext.alloc ?_ _ | refine Ext.drewN ?_ _ | refine Ext.drew ?_)))).typed
      have E7 := Lib.hid (HasN.kept (E6.out.ext (by (repeat (first | exact Ext.refl _ | assumption | refine Ext.alloc ?_ _ | refine Ext.drewN ?_ _ | refine Ext.drew ?_)))) g7 hty (by decide))
      have F7 := Lib.hid (HasN.kept (F6.out.ext (by (repeat (first | exact Ext.refl _ | assumption | refine Ext.alloc ?_ _ | refine Ext.drewN ?_ _ | refine Ext.drew ?_)))) g7 hty (by decide))
      have O7 := Lib.hid o7.rowsE
      have hlp : (P ++ [[(x5 : Int), (x6 : Int)]]).length = np + 1 := by rw [List.length_append, HNP.out]; rfl
      rw [hlp]
      have HLP := Lib.hid hlp
      clear o7 g7 t7 hty hlp
      go_wp2
      go_ret3
      exact ⟨a1, a2, a7, n1, c1, n2, c2, c7, P ++ [[(x5 : Int), (x6 : Int)]], by rw [HLP.out]; rfl, E7.out.ext (by (repeat (first | exact Ext.refl _ | assumption | refine Ext.alloc ?_ _ | refine Ext.drewN ?_ _ | refine Ext.drew ?_))), F7.out.ext (by (repeat (first | exact Ext.refl _ | assumption | refine Ext.alloc ?_ _ | refine Ext.drewN ?_ _ | refine Ext.drew ?_))), O7.out.ext (by (repeat (first | exact Ext.refl _ | assumption | refine Ext.alloc ?_ _ | refine Ext.drewN ?_ _ | refine Ext.drew ?_))), h1, h2, by rw [HLP.out]; omega, X7.out.trans (by (repeat (first | exact Ext.refl _ | assumption | refine Ext.alloc ?_ _ | refine Ext.drewN ?_ _ | refine Ext.drew ?_)))⟩
    · have hx0' : (((x : Nat) : Int) == 0) = false := by simp; omega
      have hx1' : (((x : Nat) : Int) == 1) = false := by simp; omega
      clear hx0 hx1 hx
      go_wp2
      go_ret3
      exact ⟨a1, a2, aP, n1, c1, n2, c2, cP, P, by rw [HNP.out]; rfl, E4.out.ext (by (repeat (first | exact Ext.refl _ | assumption | refine Ext.alloc ?_ _ | refine Ext.drewN ?_ _ | refine Ext.drew ?_))), F4.out.ext (by (repeat (first | exact Ext.refl _ | assumption | refine Ext.alloc ?_ _ | refine Ext.drewN ?_ _ | refine Ext.drew ?_))), O4.out.rowsE.ext (by (repeat (first | exact Ext.refl _ | assumption | refine Ext.alloc ?_ _ | refine Ext.drewN ?_ _ | refine Ext.drew ?_))), h1, h2, by rw [HNP.out]; omega, X4.out.trans (by (repeat (first | exact Ext.refl _ | assumption | refine Ext.alloc ?_ _ | refine Ext.drewN ?_ _ | refine Ext.drew ?_)))⟩
end Go.Proofs.YtlaamecfknkmlaaGreat
