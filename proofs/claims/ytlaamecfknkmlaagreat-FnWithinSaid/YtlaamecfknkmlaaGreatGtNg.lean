/- Merged texts: contracts and plain lemmas (Ng). -/
import Derived.Test.YtlaamecfknkmlaaGreatGt16
import Derived.Test.YtlaamecfknkmlaaGreatGt2
import Derived.Test.YtlaamecfknkmlaaGreatGt14
import Derived.Test.YtlaamecfknkmlaaGreatGtYk
import Derived.Deep.RegionHeld3
namespace Go.Kt
set_option linter.unusedVariables false
open Go.Proofs.YtlaamecfknkmlaaGreat Go.RowKit
theorem own_lit2 (w : World) (B E : Nat) (x y : Int) (hB : B ≤ w.heap.size) : OwnI (w.alloc (.cells #[.int .i64 x, .int .i64 y] E)) B E (.slice (some ⟨w.heap.size, 0, none⟩) 2 2) [x, y] :=
  World.ownsRow_lit (base := B) (e := E) (size := 1) w #[.int .i64 x, .int .i64 y] 2 hB (by unfold maxLen; omega) rfl
/-- append of one way in a drawn region: and where the answer lies. -/
theorem step_append_wA {P : Program} {ops : Array Oper} {o : Oper} {a : Act} {K : Act → World → Prop} {Q : Exit → Act → World → Prop} {X : Prop} {w : World} (hgd : o.guard = none) (s x : Operand) (t : TypeId)
    (ho : o.op = .call { callee := .builtin .append, args := #[s, x], argTypes := #[t, t] }) (B : Nat) (E : Ek) (ER : Nat) (hE : E.t ≠ ER) (ht : P.underlying t = some (.slice ER)) (z : Value) (hz : z.cells.size = 3) (by' : Nat) (hby : by' ≤ 100)
    (hinfo : (P.info? ER).map (fun i => (i.zero, i.size, i.bytes)) = some (some z, 3, by'))
    (v : Value) (L : List Way) (hs : a.eval s = v) (hown : OwnW w B E ER v L) (g : Nat) (y : Way) (ai : Option Addr) (ci : Nat) (hx : a.eval x = .slice (some ⟨g, 0, none⟩) 1 1)
    (hc0 : w.cell? ⟨g, 0, none⟩ = some (.int .i64 (y.1.1 : Nat))) (hc1 : w.cell? ⟨g, 1, none⟩ = some (.int .i64 (y.1.2 : Nat))) (hc2 : w.cell? ⟨g, 2, none⟩ = some (.slice ai y.2.length ci)) (hci : y.2.length ≤ ci) (hi : IntsE w E ai y.2) (hz0' : y.2.length = 0 → ai = none ∧ ci = 0)
    (hlen : L.length + 1 ≤ 1099511627776) (hB : B ≤ w.heap.size)
    (h : ∀ v' w', OwnW w' B E ER v' (L ++ [y]) → w.grownBy w' v.ownBlock → (v'.ownBlock = v.ownBlock ∨ v'.ownBlock = some w.heap.size) → K (a.put o.dst v') w') : if Region.wanted o (yielded ops a.tmps) = true then Oper.wp P o a w K Q else X := by
  have hty := hown.typed
  obtain ⟨ts, h1, h2⟩ := hown
  obtain ⟨i, hi', hz0, hz1, hz2⟩ := info_parts hinfo
  refine step_append_lies w hgd s x t ho B ER i z 3 by' ht hi' hz0 hz1 hz2 hz (by decide) v L.length (flatW L ts) hs h1 ⟨g, 0, none⟩ 1 1 [.int .i64 (y.1.1 : Nat), .int .i64 (y.1.2 : Nat), .slice ai y.2.length ci] hx rfl ?_ ?_ (by decide) (by unfold maxLen; omega) (Nat.le_trans (Nat.mul_le_mul hlen hby) (by decide)) hB w.heap.size rfl ?_
  · intro j u' hj
    match j, hj with
    | 0, hj => simp at hj; subst hj; simpa [Addr.add] using hc0
    | 1, hj => simp at hj; subst hj; simpa [Addr.add] using hc1
    | 2, hj => simp at hj; subst hj; simpa [Addr.add] using hc2
    | j + 3, hj => simp at hj
  · intro u' hu
    simp at hu
    rcases hu with rfl | rfl | rfl <;> rfl
  · intro g' cap w' k1 k2 k3 _
    refine h _ w' ⟨ts ++ [.slice ai y.2.length ci], ?_, ?_⟩ k2 ?_
    · rw [flatW_app L ts y _ h2.1, List.length_append]; exact k1
    · exact (h2.snoc hci hi hz0').kept k2 hty hE
    · rcases k3 with k3 | k3
      · exact .inl k3.symm
      · exact .inr (by rw [k3]; rfl)
theorem ownI_fit10 {w : World} {B E n cap : Nat} {a : Option Addr} {l : List Int} (h : OwnI w B E (.slice a n cap) l) : n ≤ cap := by
  rcases h.2 with ⟨hv, _⟩ | ⟨g', cap', cur, hv, _, _, hn', _⟩
  · simp at hv; omega
  · simp at hv; omega
/-- What the search holds. -/
structure Trk (w w' : World) (mB B2 T W : Nat) (v lvv : Value) (S : List (Nat × Nat)) (L lv : List Way) : Prop where
  own : OwnW w' B2 (ek T) W v L
  set : SetP w' mB S
  lvl : OwnW w' (w.heap.size + 1) (ek T) W lvv lv
  ext : Ext w w'
  big : B2 ≤ w'.heap.size
  old : ∀ k, lvv.ownBlock = some k → k < B2
theorem Trk.go {w w' w2 : World} {mB B2 T W : Nat} {v lvv : Value} {S : List (Nat × Nat)} {L lv : List Way} (h : Trk w w' mB B2 T W v lvv S L lv) (x : Ext w' w2) : Trk w w2 mB B2 T W v lvv S L lv :=
  ⟨h.own.ext x, h.set.ext x, h.lvl.ext x, h.ext.trans x, Nat.le_trans h.big x.size, h.old⟩
theorem Trk.put {w w' w2 : World} {mB B2 T W : Nat} {v lvv : Value} {S S' : List (Nat × Nat)} {L lv : List Way} (h : Trk w w' mB B2 T W v lvv S L lv) (hm : w.heap.size ≤ mB) (g : w'.grownBy w2 (some mB)) (s : SetP w2 mB S') : Trk w w2 mB B2 T W v lvv S' L lv :=
  ⟨h.own.keptM g h.set, s, h.lvl.keptM g h.set, Ext.row h.ext g (fun k hk => by have := Option.some.inj hk; omega), Nat.le_trans h.big g.size, h.old⟩
theorem Trk.push {w w' w2 : World} {mB B2 T W : Nat} {v v2 lvv : Value} {S : List (Nat × Nat)} {L L' lv : List Way} (h : Trk w w' mB B2 T W v lvv S L lv) (hT : T ≠ W) (hB : w.heap.size ≤ B2) (g : w'.grownBy w2 v.ownBlock) (o : OwnW w2 B2 (ek T) W v2 L') : Trk w w2 mB B2 T W v2 lvv S L' lv := by
  refine ⟨o, h.set.grown g (h.own.ne h.set), h.lvl.kept g h.own.typed hT ?_, Ext.row h.ext g (fun k hk => by have := (h.own.lt k hk).1; omega), Nat.le_trans h.big g.size, h.old⟩
  cases hl : lvv.ownBlock with
  | none => exact .inl rfl
  | some k =>
    refine .inr fun e => ?_
    have h1 := h.old k hl
    have h2 := (h.own.lt k e.symm).1
    omega
/-- A way in a block of its own. -/
structure At17 (w' : World) (b T : Nat) (x : Way) (ai : Option Addr) (ci : Nat) (v : Value) : Prop where
  c0 : w'.cell? ⟨b, 0, none⟩ = some (.int .i64 (x.1.1 : Nat))
  c1 : w'.cell? ⟨b, 1, none⟩ = some (.int .i64 (x.1.2 : Nat))
  c2 : w'.cell? ⟨b, 2, none⟩ = some (.slice ai x.2.length ci)
  ints : IntsE w' (ek T) ai x.2
  ne : v.ownBlock ≠ some b
theorem At17.go {w' w2 : World} {b T ci : Nat} {x : Way} {ai : Option Addr} {v : Value} (h : At17 w' b T x ai ci v) (e : Ext w' w2) : At17 w2 b T x ai ci v := by
  have hz := lt_of_cell h.c0
  exact ⟨e.cell' h.c0 hz, e.cell' h.c1 hz, e.cell' h.c2 hz, h.ints.ext e, h.ne⟩
theorem At17.put {w' w2 : World} {b T ci mB : Nat} {x : Way} {ai : Option Addr} {v : Value} {S : List (Nat × Nat)} (h : At17 w' b T x ai ci v) (g : w'.grownBy w2 (some mB)) (s : SetP w' mB S) (hb : mB ≠ b) : At17 w2 b T x ai ci v := by
  have hz := lt_of_cell h.c0
  have hne : some b ≠ some mB := fun e => hb (Option.some.inj e).symm
  exact ⟨g.cell h.c0 hne, g.cell h.c1 hne, g.cell h.c2 hne, h.ints.keptM g s, h.ne⟩
theorem At17.push {w' w2 : World} {b T ci W : Nat} {x : Way} {ai : Option Addr} {v v2 : Value} (h : At17 w' b T x ai ci v) (g : w'.grownBy w2 v.ownBlock) (ty : ∀ k, v.ownBlock = some k → ∃ cs fz, w'.heap[k]? = some (.cells cs W fz)) (hT : T ≠ W) (wh : v2.ownBlock = v.ownBlock ∨ v2.ownBlock = some w'.heap.size) : At17 w2 b T x ai ci v2 := by
  have hz := lt_of_cell h.c0
  have hne : some b ≠ v.ownBlock := fun e => h.ne e.symm
  refine ⟨g.cell h.c0 hne, g.cell h.c1 hne, g.cell h.c2 hne, h.ints.kept g ty hT, ?_⟩
  rcases wh with e | e
  · rw [e]; exact h.ne
  · rw [e]; intro e2; have := Option.some.inj e2; omega
theorem world_cut {K : Exit → Act → World → Prop} {e : Exit} {a : Act} {w0 w8 : World} {b : Nat} {u0 u1 : Value} (x : Ext w0 w8) (d0 : w8.cell? ⟨b, 0, none⟩ = some u0) (d1 : w8.cell? ⟨b, 1, none⟩ = some u1) (h : ∀ w9, Ext w0 w9 → w9.cell? ⟨b, 0, none⟩ = some u0 → w9.cell? ⟨b, 1, none⟩ = some u1 → K e a w9) : K e a w8 := h w8 x d0 d1
theorem xor_lt16 {x y : Nat} (hx : x < 16) (hy : y < 16) : x ^^^ y < 16 := Nat.xor_lt_two_pow (n := 4) hx hy
end Go.Kt
namespace Go.Proofs.YtlaamecfknkmlaaGreat
set_option linter.unusedVariables false
open Go.RowKit Go.Kt
theorem cloneT_c (a : Option Addr) (cap : Nat) (l : List Int) (w : World) (hl : IntsAt w a l) (hlen : l.length ≤ 4194304) (hz : l.length = 0 → a = none ∧ cap = 0) :
    Calls Tryz.prog 135 #[.slice a l.length cap] w (RetI 3 w l) := by
  by_cases h0 : l.length = 0
  · have hll : l = [] := List.eq_nil_of_length_eq_zero h0
    obtain ⟨rfl, rfl⟩ := hz h0
    subst hll
    have hnil : ∀ W : World, (binOp .eql 23 (.slice none 0 0) (.slice none 0 0)).run Tryz.prog W = .ok (.bool true) W := fun W => Lib.run_eql_slice_nil W _ _ none 0 0 0 0 Tryz.underlying23
    clear hl hz
    show Calls Tryz.prog 135 #[.slice none 0 0] w _
    go_enter Tryz.func135, Tryz.ntmps135
    go_wp2
    go_ret
    exact ⟨_, rfl, OwnI.nil _ _ _, Ext.refl _⟩
  · exact cloneI_c a cap l w hl (by omega) hlen
abbrev HeldQ (w' : World) (b z n : Nat) (p : Nat × Nat) (ai : Option Addr) (ci : Nat) : Prop := w'.cell? ⟨b, 0, none⟩ = some (.int .i64 (p.1 : Nat)) ∧ w'.cell? ⟨b, 1, none⟩ = some (.int .i64 (p.2 : Nat)) ∧ w'.cell? ⟨z, 2, none⟩ = some (.slice ai n ci)
abbrev HeldP (w' : World) (z : Nat) (p : Nat × Nat) : Prop := w'.cell? ⟨z, 0, none⟩ = some (.int .i64 (p.1 : Nat)) ∧ w'.cell? ⟨z, 1, none⟩ = some (.int .i64 (p.2 : Nat))
theorem infoWay : (Tryz.prog.info? 126).map (fun i => (i.zero, i.size, i.bytes)) = some (some (.agg #[.int .i64 0, .int .i64 0, .slice none 0 0]), 3, 40) := by kernel_rfl
def RetTr (w : World) (o : Option (List Int)) (r : Ending) (w' : World) : Prop := ∃ a c, r = .returned (.tuple #[.slice a (o.getD []).length c, .bool o.isSome]) ∧ IntsAt w' a (o.getD []) ∧ Ext w w'
set_option maxRecDepth 100000 in
set_option maxHeartbeats 8000000 in
theorem firstTrace_c (e f : List Int) (a1 : Option Addr) (c1 : Nat) (a2 : Option Addr) (c2 : Nat) (b1 : Option Addr) (d1 : Nat) (b2 : Option Addr) (d2 : Nat) (w : World) (i1 : IntsAt w a1 (auE e)) (i2 : RowsAt w a2 (auN e)) (i3 : IntsAt w b1 (auE f)) (i4 : RowsAt w b2 (auN f)) (h1 : auB e = true) (h2 : auB f = true) :
    Calls Tryz.prog 77 #[.agg #[.int .i64 1, .int .i64 1], .func (.func 58) #[togV a1 (auE e).length c1 a2 (auN e).length c2 b1 (auE f).length d1 b2 (auN f).length d2] #[], .func (.func 57) #[togV a1 (auE e).length c1 a2 (auN e).length c2 b1 (auE f).length d1 b2 (auN f).length d2] #[]] w (RetTr w (dfF (auE e) (auE f) (auN e) (auN f) 21 0)) := by
  have hA := auto_of e
  have hB := auto_of f
  have HBd := Lib.hid (fun a => stW_bd hA hB a)
  have HWk := Lib.hid (fun a => stW_ok (auN e) (auN f) a)
  have HLv : Hid (∀ S lv q m, BdP S → m ≤ 12 → BdP (addW (auN e) (auN f) (lvW (auN e) (auN f) S lv q) (atW lv q) m).1 ∧ (addW (auN e) (auN f) (lvW (auN e) (auN f) S lv q) (atW lv q) m).2.length ≤ (addW (auN e) (auN f) (lvW (auN e) (auN f) S lv q) (atW lv q) m).1.length) := fun S lv q m hS hm => ⟨addW_bd hA hB (lvW_bd hA hB hS (lv := lv) q).1 m hm, addW_le (lvW_bd hA hB hS (lv := lv) q).2.1 m⟩
  have CN : Hid (∀ w' (p : Nat × Nat) m, Ext w w' → p.1 < 4294967296 → p.2 < 4294967296 → m < 12 → Calls Tryz.prog 58 #[togV a1 (auE e).length c1 a2 (auN e).length c2 b1 (auE f).length d1 b2 (auN f).length d2, .agg #[.int .i64 (p.1 : Nat), .int .i64 (p.2 : Nat)], .int .i64 (m : Nat)] w' fun r w'' => r = .returned (.agg #[.int .i64 ((nxP (auN e) (auN f) p m).1 : Nat), .int .i64 ((nxP (auN e) (auN f) p m).2 : Nat)]) ∧ Ext w' w'') :=
    fun w' p m x hp hq hm => next_c a1 a2 c1 c2 (auE e) (auN e) b1 b2 d1 d2 (auE f) (auN f) p.1 p.2 m w' (i2.ext x) hA (i4.ext x) hB hp hq hm
  have CA : Hid (∀ w' (p : Nat × Nat), Ext w w' → p.1 < 4294967296 → p.2 < 4294967296 → Calls Tryz.prog 57 #[togV a1 (auE e).length c1 a2 (auN e).length c2 b1 (auE f).length d1 b2 (auN f).length d2, .agg #[.int .i64 (p.1 : Nat), .int .i64 (p.2 : Nat)]] w' fun r w'' => r = .returned (.int .i64 ((apN (auE e) (auE f) p : Nat) : Int)) ∧ Ext w' w'') :=
    fun w' p x hp hq => apart_c a1 a2 c1 _ c2 (auE e) (auN e) b1 b2 d1 _ d2 (auE f) (auN f) p.1 p.2 w' (i1.ext x) hA (i3.ext x) hB hp hq
  have HAp : Hid (∀ p, apN (auE e) (auE f) p < 16) := fun p => xor_lt16 (ends_of_lt hA p.1) (ends_of_lt hB p.2)
  clear i1 i2 i3 i4 h1 h2 hA hB
  have HRet : Hid (∀ a c w' o, dfF (auE e) (auE f) (auN e) (auN f) 21 0 = o → IntsAt w' a (o.getD []) → Ext w w' → RetTr w (dfF (auE e) (auE f) (auN e) (auN f) 21 0) (.returned (.tuple #[.slice a (o.getD []).length c, .bool o.isSome])) w') := fun a c w' o h x1 x2 => by subst h; exact ⟨a, c, rfl, x1, x2⟩
  generalize hFQ : RetTr w (dfF (auE e) (auE f) (auN e) (auN f) 21 0) = FQ at *
  clear hFQ
  generalize (auE e).length = nE at *
  generalize (auN e).length = nN at *
  generalize (auE f).length = nF at *
  generalize (auN f).length = nM at *
  generalize auE e = E at *
  generalize auE f = F at *
  generalize auN e = N at *
  generalize auN f = M at *
  have hmm := @run_makeMap Tryz.prog
  go_enter Tryz.func77, Tryz.ntmps77
  go_wp2_with (refine wpList_ins rfl _ _ _ rfl (w.heap.size + 1 + 1) [] (1, 1) rfl rfl rfl (by have := SetP.made ((w.alloc (.cells #[.int .i64 1, .int .i64 1] 71)).alloc (.cells #[.int .i64 1, .int .i64 1, .slice none 0 0] 126)); simpa using this) ?_; intro w5 s5 g5 z5)
  have S5 : Hid (SetP w5 (w.heap.size + 1 + 1) [(1, 1)]) := s5
  have X5 : Hid (Ext w w5) := Ext.row ((((Ext.refl _).alloc _).alloc _).alloc _) g5 (fun k hk => by have := Option.some.inj hk; omega)
  have O5 : Hid (OwnW w5 (w.heap.size + 1) (ek 3) 126 (.slice (some ⟨w.heap.size + 1, 0, none⟩) 1 1) [((1, 1), [])]) := by
    unfold Hid
    have h := OwnW.lit (w.alloc (.cells #[.int .i64 1, .int .i64 1] 71)) (w.heap.size + 1) (ek 3) 126 ((1, 1), []) (by simp) rfl
    have h2 := h.ext ((Ext.refl _).alloc (.map #[] 0))
    have hs := SetP.made ((w.alloc (.cells #[.int .i64 1, .int .i64 1] 71)).alloc (.cells #[.int .i64 1, .int .i64 1, .slice none 0 0] 126))
    have h3 := h2.keptM (b := w.heap.size + 1 + 1) g5 (by simpa using hs)
    simpa using h3
  clear s5 g5 z5 hmm
  go_loopw [8, 10] (fun v i wr => Hid (∃ k : Nat, k ≤ 21 ∧ i = .int .i64 k ∧ OwnW wr (w.heap.size + 1) (ek 3) 126 v (stW N M k).2 ∧ SetP wr (w.heap.size + 1 + 1) (stW N M k).1 ∧ dfF E F N M 21 0 = dfF E F N M (21 - k) k ∧ Ext w wr)) (fun _ i _ => 22 - (intOf i).toNat)
  case atStart => exact Lib.hid ⟨0, Nat.zero_le _, rfl, O5.out, S5.out, rfl, X5.out⟩
  case round =>
    obtain ⟨k, hk, rfl, ho, hs, hd, hx⟩ := hrel.out
    obtain ⟨av, cv, rfl⟩ := ho.shape
    have HO := Lib.hid ho
    have HS := Lib.hid hs
    have HD := Lib.hid hd
    have HX := Lib.hid hx
    clear hrel ho hs hd hx S5 X5 O5
    by_cases hk20 : k ≤ 20
    · have hki : (k : Int) ≤ 20 := by omega
      obtain ⟨wo, hwo⟩ : ∃ wo, wo = wr := ⟨_, rfl⟩
      subst hwo
      obtain ⟨hbd, hle, hin⟩ := HBd.out k
      have hSl := bdP_len HS.out.2 hbd
      have HWk1 := Lib.hid (HWk.out k)
      have HB1 := Lib.hid hbd
      have HIn1 := Lib.hid hin
      have hlv : (stW N M k).2.length ≤ 1048576 := by omega
      have HDn : Hid (candL E F (stW N M k).2 = [] → dfF E F N M 21 0 = dfF E F N M (21 - (k + 1)) (k + 1)) := fun h => by rw [HD.out]; exact dfF_next hk20 h
      have HDf : Hid (∀ t, (∃ r, candL E F (stW N M k).2 = t :: r) → dfF E F N M 21 0 = some t) := fun t h => by rw [HD.out]; exact dfF_found hk20 h
      have HSt : stW N M (k + 1) = lvW N M (stW N M k).1 (stW N M k).2 (stW N M k).2.length := rfl
      have HSt1 := Lib.hid HSt
      clear hbd hle hin HSt
      generalize hlvv : (stW N M k).2 = lv at *
      generalize hSS : (stW N M k).1 = S at *
      clear hlvv hSS
      generalize hn : lv.length = n at *
      have HNn := Lib.hid hn
      clear hn
      go_wp2
      go_loopw [33] (fun i wr => Hid (∃ j : Nat, j ≤ n ∧ i = .int .i64 j ∧ (∀ j', j' < j → candW E F (atW lv j') = []) ∧ Ext wo wr)) (fun i _ => n - (intOf i).toNat)
      case atStart => exact Lib.hid ⟨0, Nat.zero_le _, rfl, fun j hj => absurd hj (Nat.not_lt_zero _), by (repeat (first | exact Ext.refl _ | assumption | refine Ext.alloc ?_ _ | refine Ext.drewN ?_ _ | refine Ext.drew ?_))⟩
      case round =>
        obtain ⟨j, hj, rfl, hno, hx⟩ := hrel.out
        have HNo := Lib.hid hno
        have HX2 := Lib.hid hx
        clear hrel hno hx
        by_cases hjn : j < n
        · have hji : (j : Int) < (n : Int) := by omega
          have hjl : j < lv.length := by rw [HNn.out]; exact hjn
          obtain ⟨g, rfl, -, -, hg, hcells⟩ := HO.out.row (by omega)
          obtain ⟨q0, q1, ai, ci, q2, q3, q4, q5⟩ := hcells j hjl
          have r0 := HX2.out.cell' q0 hg
          have r1 := HX2.out.cell' q1 hg
          have r2 := HX2.out.cell' q2 hg
          have hmem := atW_mem hjl
          have hpb := HB1.out _ (HIn1.out _ hmem)
          have hwl := (HWk1.out _ hmem).len
          have R4 := Lib.hid (q4.ext HX2.out)
          have R5 := Lib.hid q5
          have HAp1 := HAp.out (atW lv j).1
          have HCn : Hid ((∀ b, b < 4 → (apN E F (atW lv j).1).testBit b = false) → ∀ j', j' < j + 1 → candW E F (atW lv j') = []) := fun h j' hj' => by
            by_cases e : j' = j
            · subst e; exact candW_none h
            · exact HNo.out j' (by omega)
          have HCf : Hid (∀ y, y < 4 → (∀ b, b < y → (apN E F (atW lv j).1).testBit b = false) → (apN E F (atW lv j).1).testBit y = true → dfF E F N M 21 0 = some ((atW lv j).2 ++ [(y : Int)])) := fun y hy h hb => HDf.out _ (candL_first hjl HNo.out (candW_first hy h hb))
          have CA1 : Hid (∀ w', Ext wr w' → Calls Tryz.prog 57 #[togV a1 nE c1 a2 nN c2 b1 nF d1 b2 nM d2, .agg #[.int .i64 ((atW lv j).1.1 : Nat), .int .i64 ((atW lv j).1.2 : Nat)]] w' fun r w'' => r = .returned (.int .i64 ((apN E F (atW lv j).1 : Nat) : Int)) ∧ Ext w' w'') := fun w' x => CA.out w' _ (HX.out.trans (HX2.out.trans x)) (by omega) (by omega)
          clear hcells q0 q1 q2 q3 q4 q5 hmem hpb
          generalize apN E F (atW lv j).1 = xx at *
          generalize (atW lv j).1 = pp at *
          generalize (atW lv j).2 = tr at *
          generalize htl : tr.length = tl at *
          have HTL := Lib.hid htl
          have htl40 : tl ≤ 40 := by omega
          obtain ⟨wj, hwj⟩ : ∃ wj, wj = wr := ⟨_, rfl⟩
          subst hwj
          have CC : Hid (∀ w', Ext wj w' → Calls Tryz.prog 135 #[.slice ai tl ci] w' (RetI 3 w' tr)) := fun w' x => by
            rw [← htl]; exact cloneT_c ai ci tr w' ((R4.out.ext x).1) (by omega) (fun h => R5.out (by omega))
          clear htl hwl
          go_wp2_with (go_at_call 57; refine (CA1.out _ (by (repeat (first | exact Ext.refl _ | assumption | refine Ext.alloc ?_ _ | refine Ext.drewN ?_ _ | refine Ext.drew ?_ | refine Ext.setCell ?_ (by simp; try omega) _)))).mono ?_; rintro r w7 ⟨rfl, x7⟩)
          have X7 := Lib.hid (Ext.trans (show Ext wj _ by (repeat (first | exact Ext.refl _ | assumption | refine Ext.alloc ?_ _ | refine Ext.drewN ?_ _ | refine Ext.drew ?_))) x7)
          have E7 : Hid (w7.cell? ⟨wj.heap.size, 2, none⟩ = some (.slice ai tl ci)) := x7.cell' (by simp [go_sem]) (by simp)
          have hz7 : wj.heap.size < w7.heap.size := by have := x7.size; simp at this; omega
          clear x7 r0 r1 r2 CA1 CA CN R4
          go_loopw [41] (fun i wr => Hid (∃ y : Nat, y ≤ 4 ∧ i = .int .i64 y ∧ (∀ b, b < y → xx.testBit b = false) ∧ Ext w7 wr)) (fun i _ => 4 - (intOf i).toNat)
          case atStart => exact Lib.hid ⟨0, Nat.zero_le _, rfl, fun b hb => absurd hb (Nat.not_lt_zero _), Ext.refl _⟩
          case round =>
            obtain ⟨y, hy, rfl, hbs, hx8⟩ := hrel.out
            have HBs := Lib.hid hbs
            have HX8 := Lib.hid hx8
            clear hrel hbs hx8
            by_cases hy4 : y < 4
            · have hyi : (y : Int) < 4 := by omega
              have CH : Hid (∀ w', Calls Tryz.prog 74 #[.int .i64 xx, .int .i64 y] w' fun e w'' => e = .returned (.bool (xx.testBit y)) ∧ w' = w'') := fun w' => holds_c xx y w' (by omega) (by omega)
              have d7 := HX8.out.cell' E7.out hz7
              cases hb : xx.testBit y
              · rw [hb] at CH
                go_wp2_with (go_at_call 74; refine (CH.out _).mono ?_; rintro r w9 ⟨rfl, rfl⟩)
                go_roundw
                case rel => exact Lib.hid ⟨y + 1, by omega, by go_num, fun b h => by
                  by_cases e : b = y
                  · subst e; exact hb
                  · exact HBs.out b (by omega), by (repeat (first | exact Ext.refl _ | assumption | refine Ext.alloc ?_ _ | refine Ext.drewN ?_ _ | refine Ext.drew ?_))⟩
                case measure => simp [intOf]; omega
              · rw [hb] at CH
                have HD2 := Lib.hid (HCf.out y hy4 HBs.out hb)
                go_wp2_with (first
                  | (go_at_call 74; refine (CH.out _).mono ?_; rintro r w9 ⟨rfl, rfl⟩)
                  | (go_at_call 135; refine (CC.out _ (X7.out.trans (HX8.out.trans (by (repeat (first | exact Ext.refl _ | assumption | refine Ext.alloc ?_ _ | refine Ext.drewN ?_ _ | refine Ext.drew ?_)))))).mono ?_; rintro r w9 ⟨v9, rfl, o9, x9⟩; obtain ⟨a9, c9, rfl, -⟩ := o9.shape; have X9 := Lib.hid (Ext.trans (show Ext wr _ by (repeat (first | exact Ext.refl _ | assumption | refine Ext.alloc ?_ _ | refine Ext.drewN ?_ _ | refine Ext.drew ?_))) x9); clear x9)
                  | (at_builtin; refine any_append_ints (by rfl) _ _ _ rfl wr.heap.size 3 Tryz.underlying23 infoInt _ tr rfl ((o9.mono (by simp)).ext (by (repeat (first | exact Ext.refl _ | assumption | refine Ext.alloc ?_ _ | refine Ext.drewN ?_ _ | refine Ext.drew ?_)))) _ _ [(y : Int)] rfl (OwnI.lit1 _ _ _ _ (Nat.le_refl _)).ints (by have := HTL.out; simp; omega) (by have := X9.out.size; simp; omega) ?_; intro v10 w10 o10 g10))
                have X10 := Lib.hid (HX8.out.trans (OwnI.grown ((o9.mono (by simp)).ext (by (repeat (first | exact Ext.refl _ | assumption | refine Ext.alloc ?_ _ | refine Ext.drewN ?_ _ | refine Ext.drew ?_)))) (X9.out.trans (by (repeat (first | exact Ext.refl _ | assumption | refine Ext.alloc ?_ _ | refine Ext.drewN ?_ _ | refine Ext.drew ?_)))) g10))
                obtain ⟨a10, c10, rfl, i10⟩ := o10.shape
                have HR2 := Lib.hid (HRet.out a10 c10 w10 (some (tr ++ [(y : Int)])) HD2.out i10 (HX.out.trans (HX2.out.trans (X7.out.trans X10.out))))
                go_wp2
                exact HR2.out
            · obtain rfl : y = 4 := by omega
              have HN2 := Lib.hid (HCn.out HBs.out)
              go_wp2
              go_roundw
              case rel => exact Lib.hid ⟨j + 1, by omega, by go_num, HN2.out, HX2.out.trans (X7.out.trans HX8.out)⟩
              case measure => simp [intOf]; omega
        · obtain rfl : j = n := by omega
          have HDn1 := Lib.hid (HDn.out (candL_none (by rw [HNn.out]; exact HNo.out)))
          clear HNo HDn HDf HAp CA HRet
          obtain ⟨wj, hwj⟩ : ∃ wj, wj = wr := ⟨_, rfl⟩
          subst hwj
          have hT0 : Hid (Trk w wj (w.heap.size + 1 + 1) wj.heap.size 3 126 (.slice none 0 0) (.slice av j cv) (lvW N M S lv 0).1 (lvW N M S lv 0).2 lv) :=
            ⟨OwnW.nil _ _ _ _, HS.out.ext HX2.out, HO.out.ext HX2.out, HX.out.trans HX2.out, Nat.le_refl _, fun q hq => ((HO.out.ext HX2.out).lt q hq).2⟩
          have hmB : w.heap.size + 1 + 1 < wj.heap.size := (HS.out.ext HX2.out).lt
          clear HO HS HX2
          go_wp2
          go_loopw [15, 57] (fun v i wr => Hid (∃ q : Nat, q ≤ j ∧ i = .int .i64 q ∧ Trk w wr (w.heap.size + 1 + 1) wj.heap.size 3 126 v (.slice av j cv) (lvW N M S lv q).1 (lvW N M S lv q).2 lv)) (fun _ i _ => j - (intOf i).toNat)
          case atStart => exact Lib.hid ⟨0, Nat.zero_le _, rfl, hT0.out⟩
          case round =>
            obtain ⟨q, hq, rfl, ht⟩ := hrel.out
            obtain ⟨a3, c3, rfl⟩ := ht.own.shape
            have HT := Lib.hid ht
            clear hrel ht hT0
            by_cases hqn : q < j
            · obtain ⟨wq, hwq⟩ : ∃ wq, wq = wr := ⟨_, rfl⟩
              subst hwq
              have hqi : (q : Int) < (j : Int) := by omega
              have hql : q < lv.length := by rw [HNn.out]; exact hqn
              obtain ⟨g, rfl, -, -, hg, hcells⟩ := HT.out.lvl.row (by omega)
              obtain ⟨r0, r1, ai, ci, r2, r3, r4, r5⟩ := hcells q hql
              have hmem := atW_mem hql
              have hpb := HB1.out _ (HIn1.out _ hmem)
              have hwl := (HWk1.out _ hmem).len
              have HLen : Hid (∀ m, m ≤ 12 → BdP (addW N M (lvW N M S lv q) (atW lv q) m).1 ∧ (addW N M (lvW N M S lv q) (atW lv q) m).2.length ≤ (addW N M (lvW N M S lv q) (atW lv q) m).1.length) := fun m hm => HLv.out S lv q m HB1.out hm
              have HSuc : Hid (lvW N M S lv (q + 1) = addW N M (lvW N M S lv q) (atW lv q) 12) := rfl
              have R4 := Lib.hid r4
              have R5 := Lib.hid r5
              clear r4 r5 hcells hmem HLv
              generalize lvW N M S lv q = so at *
              generalize atW lv q = x at *
              have hx40 : x.2.length ≤ 40 := by omega
              have CC : Hid (∀ w', Ext wq w' → Calls Tryz.prog 135 #[.slice ai x.2.length ci] w' (RetI 3 w' x.2)) := fun w' e =>
                cloneT_c ai ci x.2 w' ((R4.out.ext e).1) (by omega) (fun h => R5.out h)
              clear hwl
              have HT17 : Hid (Trk w (wq.alloc (.cells #[.int .i64 (x.1.1 : Nat), .int .i64 (x.1.2 : Nat), .slice ai x.2.length ci] 126)) (w.heap.size + 1 + 1) wj.heap.size 3 126 (.slice a3 so.2.length c3) (.slice (some ⟨g, 0, none⟩) j cv) so.1 so.2 lv ∧ At17 (wq.alloc (.cells #[.int .i64 (x.1.1 : Nat), .int .i64 (x.1.2 : Nat), .slice ai x.2.length ci] 126)) wq.heap.size 3 x ai ci (.slice a3 so.2.length c3)) :=
                ⟨HT.out.go ((Ext.refl _).alloc _), by simp [go_sem], by simp [go_sem], by simp [go_sem], R4.out.ext ((Ext.refl _).alloc _), fun e => by have := (HT.out.own.lt _ e).2; omega⟩
              have hzq := HT.out.big
              generalize hnl : x.2.length = nx at *
              have HNX := Lib.hid hnl
              clear hnl R4 HT
              go_wp2
              go_loopw [15, 61] (fun v i wr => Hid (∃ A : Nat, A ≤ 4 ∧ i = .int .i64 A ∧ Trk w wr (w.heap.size + 1 + 1) wj.heap.size 3 126 v (.slice (some ⟨g, 0, none⟩) j cv) (addW N M so x (3 * A)).1 (addW N M so x (3 * A)).2 lv ∧ At17 wr wq.heap.size 3 x ai ci v ∧ wq.heap.size ≤ wr.heap.size)) (fun _ i _ => 4 - (intOf i).toNat)
              case atStart => exact Lib.hid ⟨0, Nat.zero_le _, rfl, HT17.out.1, HT17.out.2, by simp⟩
              case round =>
                obtain ⟨A, hA, rfl, ht, h17, hxq⟩ := hrel.out
                have HT5 := Lib.hid ht
                have HA5 := Lib.hid h17
                have HXq := Lib.hid hxq
                clear hrel ht h17 HT17 hxq
                by_cases hA4 : A < 4
                · have hAi : (A : Int) < 4 := by omega
                  obtain ⟨w5', hw5'⟩ : ∃ w5', w5' = wr := ⟨_, rfl⟩
                  subst hw5'
                  go_wp2
                  go_loopw [15, 19] (fun v i wr => Hid (∃ C : Nat, C ≤ 3 ∧ i = .int .i64 (16 + (C : Int)) ∧ Trk w wr (w.heap.size + 1 + 1) wj.heap.size 3 126 v (.slice (some ⟨g, 0, none⟩) j cv) (addW N M so x (3 * A + C)).1 (addW N M so x (3 * A + C)).2 lv ∧ At17 wr wq.heap.size 3 x ai ci v ∧ wq.heap.size ≤ wr.heap.size)) (fun _ i _ => 19 - (intOf i).toNat)
                  case atStart => exact Lib.hid ⟨0, Nat.zero_le _, rfl, HT5.out, HA5.out, HXq.out⟩
                  case round =>
                    obtain ⟨C, hC, rfl, ht, h17, hxq⟩ := hrel.out
                    obtain ⟨a6, c6, rfl⟩ := ht.own.shape
                    have HT6 := Lib.hid ht
                    have HA6 := Lib.hid h17
                    have HX6 := Lib.hid hxq
                    have hwx : w.heap.size + 1 + 1 < wr.heap.size := by have := ht.big; omega
                    clear hrel ht h17 hxq HT5 HA5 HXq
                    by_cases hC3 : C < 3
                    · have hCi : (16 + (C : Int)) ≤ 18 := by omega
                      have hm12 : 3 * A + C < 12 := by omega
                      have HB17 : Hid (HeldP wr wq.heap.size x.1) := ⟨HA6.out.c0, HA6.out.c1⟩
                      have hzb := lt_of_cell HA6.out.c0
                      have CM : Hid (∀ w', Calls Tryz.prog 136 #[.int .i64 A, .int .i64 (16 + (C : Int))] w' fun e w'' => e = .returned (.int .i64 ((3 * A + C : Nat) : Int)) ∧ w' = w'') := fun w' => move_c A C w' (by omega) hC3
                      have CN1 : Hid (∀ w', Ext wr w' → Calls Tryz.prog 58 #[togV a1 nE c1 a2 nN c2 b1 nF d1 b2 nM d2, .agg #[.int .i64 (x.1.1 : Nat), .int .i64 (x.1.2 : Nat)], .int .i64 ((3 * A + C : Nat) : Int)] w' fun r w'' => r = .returned (.agg #[.int .i64 ((nxP N M x.1 (3 * A + C)).1 : Nat), .int .i64 ((nxP N M x.1 (3 * A + C)).2 : Nat)]) ∧ Ext w' w'') :=
                        fun w' e => CN.out w' x.1 (3 * A + C) (HT6.out.ext.trans e) (by omega) (by omega) hm12
                      have hln := HLen.out (3 * A + C) (by omega)
                      have hl2 := bdP_len HT6.out.set.2 hln.1
                      have hl3 : (addW N M so x (3 * A + C)).2.length ≤ 1048576 := by omega
                      have HStep : Hid (addW N M so x (3 * A + C + 1) = if nxP N M x.1 (3 * A + C) ∈ (addW N M so x (3 * A + C)).1 then addW N M so x (3 * A + C) else ((addW N M so x (3 * A + C)).1 ++ [nxP N M x.1 (3 * A + C)], (addW N M so x (3 * A + C)).2 ++ [farW N M x (3 * A + C)])) := rfl
                      have HFar : Hid (farW N M x (3 * A + C) = (nxP N M x.1 (3 * A + C), x.2 ++ [(A : Int), 16 + (C : Int)])) := by
                        unfold Hid farW
                        rw [show (3 * A + C) / 3 = A by omega, show (3 * A + C) % 3 = C by omega]
                      clear hln hl2
                      generalize hs1 : addW N M so x (3 * A + C + 1) = s1 at *
                      have HS1 := Lib.hid hs1
                      clear hs1
                      generalize addW N M so x (3 * A + C) = s0 at *
                      generalize farW N M x (3 * A + C) = far at *
                      generalize nxP N M x.1 (3 * A + C) = p1 at *
                      by_cases hin : p1 ∈ s0.1
                      · rw [if_pos hin] at HStep
                        have HQ : Hid (decide (p1 ∈ s0.1) = true) := decide_eq_true hin
                        clear hin
                        go_wp2
                        have K0 := (show HeldP wr.drew wq.heap.size x.1 by simp only [HeldP]; simpa [go_sem] using HB17.out)
                        have KK : Hid (∀ w', Ext wr w' → HeldP w' wq.heap.size x.1) := fun w' e => ⟨e.cell' HB17.out.1 hzb, e.cell' HB17.out.2 hzb⟩
                        go_region_held3 (fun w' => HeldP w' wq.heap.size x.1)
                          (first
                            | exact K0
                            | assumption
                            | exact KK.out _ (by repeat (first | exact Ext.refl _ | assumption | exact Ext.trans (show Ext wr _ by (repeat (first | exact Ext.refl _ | assumption | refine Ext.alloc ?_ _ | refine Ext.drewN ?_ _ | refine Ext.drew ?_))) yk | refine Ext.alloc ?_ _ | refine Ext.drewN ?_ _ | refine Ext.drew ?_ | refine Ext.setCell ?_ (by simp; try omega) _)))
                          ((first
                            | (go_at_call 136; refine (CM.out _).mono ?_; rintro e wk0 ⟨rfl, rfl⟩)
                            | (go_at_call 58; refine (CN1.out _ (by (repeat (first | exact Ext.refl _ | assumption | refine Ext.alloc ?_ _ | refine Ext.drewN ?_ _ | refine Ext.drew ?_)))).mono ?_; rintro e wk ⟨rfl, yk⟩; have zk := yk.size; (try simp at zk); try (have cn0 := yk.cell' (show (wr.drew.alloc (.cells #[.int .i64 0, .int .i64 0] 71)).cell? ⟨wr.heap.size, 0, none⟩ = some (.int .i64 0) by simp [go_sem]) (by simp); have cn1 := yk.cell' (show (wr.drew.alloc (.cells #[.int .i64 0, .int .i64 0] 71)).cell? ⟨wr.heap.size, 1, none⟩ = some (.int .i64 0) by simp [go_sem]) (by simp); have fn0 := (yk.cells.2 wr.heap.size 0 (by simp)).trans (show (wr.drew.alloc (.cells #[.int .i64 0, .int .i64 0] 71)).frozen? ⟨wr.heap.size, 0, none⟩ = false by simp [go_sem]); have fn1 := (yk.cells.2 wr.heap.size 1 (by simp)).trans (show (wr.drew.alloc (.cells #[.int .i64 0, .int .i64 0] 71)).frozen? ⟨wr.heap.size, 1, none⟩ = false by simp [go_sem]); have zn : wr.heap.size < wk.heap.size := (by omega)))))
                        all_goals
                          first
                            | (refine world_cut (w0 := wr) (b := wr.heap.size) (u0 := .int .i64 (p1.1 : Nat)) (u1 := .int .i64 (p1.2 : Nat)) (by repeat (first | exact Ext.refl _ | assumption | exact Ext.trans (show Ext wr _ by (repeat (first | exact Ext.refl _ | assumption | refine Ext.alloc ?_ _ | refine Ext.drewN ?_ _ | refine Ext.drew ?_))) yk | refine Ext.alloc ?_ _ | refine Ext.drewN ?_ _ | refine Ext.drew ?_ | refine Ext.setCell ?_ (by simp; try omega) _)) (by simp [go_sem, cn0]) (by simp [go_sem, cn1]) ?_
                               intro w9 x9 d90 d91
                               have hb9 := lt_of_cell d90
                               have hmb9 : w.heap.size + 1 + 1 < wr.heap.size := by omega
                               have HNb : Hid (¬ some (wr.heap.size) = (Value.slice a6 s0.2.length c6).ownBlock) := fun e => by have := (HT6.out.own.lt _ e.symm).2; omega
                               generalize wr.heap.size = b9 at d90 d91 hb9 hmb9 HNb ⊢)
                            | (refine world_cut (w0 := wr) (b := wk.heap.size) (u0 := .int .i64 (p1.1 : Nat)) (u1 := .int .i64 (p1.2 : Nat)) (by repeat (first | exact Ext.refl _ | assumption | exact Ext.trans (show Ext wr _ by (repeat (first | exact Ext.refl _ | assumption | refine Ext.alloc ?_ _ | refine Ext.drewN ?_ _ | refine Ext.drew ?_))) yk | refine Ext.alloc ?_ _ | refine Ext.drewN ?_ _ | refine Ext.drew ?_ | refine Ext.setCell ?_ (by simp; try omega) _)) (by simp [go_sem]) (by simp [go_sem]) ?_
                               intro w9 x9 d90 d91
                               have hb9 := lt_of_cell d90
                               have hmb9 : w.heap.size + 1 + 1 < wk.heap.size := by omega
                               have HNb : Hid (¬ some (wk.heap.size) = (Value.slice a6 s0.2.length c6).ownBlock) := fun e => by have := (HT6.out.own.lt _ e.symm).2; omega
                               generalize wk.heap.size = b9 at d90 d91 hb9 hmb9 HNb ⊢)
                            | fail
                          have X9 := Lib.hid x9
                          have hz9 := x9.size
                          clear x9 zk yk
                          try clear cn0 cn1 fn0 fn1 zn
                          have T9 := Lib.hid (HT6.out.go X9.out)
                          have A9 := Lib.hid (HA6.out.go X9.out)
                          have Q9 := Lib.hid (Nat.le_trans HX6.out hz9)

                          go_wp2_with (refine wpList_look rfl _ _ rfl (w.heap.size + 1 + 1) s0.1 p1 rfl rfl (T9.out.set.ext (by (repeat (first | exact Ext.refl _ | assumption | refine Ext.alloc ?_ _ | refine Ext.drewN ?_ _ | refine Ext.drew ?_)))) true HQ.out ?_)
                          go_roundw
                          case rel => exact Lib.hid ⟨C + 1, by omega, by go_num, by rw [show 3 * A + (C + 1) = 3 * A + C + 1 from rfl, HS1.out, HStep.out]; exact T9.out.go (by (repeat (first | exact Ext.refl _ | assumption | refine Ext.alloc ?_ _ | refine Ext.drewN ?_ _ | refine Ext.drew ?_))), A9.out.go (by (repeat (first | exact Ext.refl _ | assumption | refine Ext.alloc ?_ _ | refine Ext.drewN ?_ _ | refine Ext.drew ?_))), by have := Q9.out; (try simp); omega⟩
                          case measure => simp [intOf]; omega
                      · rw [if_neg hin] at HStep
                        have HQ : Hid (decide (p1 ∈ s0.1) = false) := decide_eq_false hin
                        have HNq := Lib.hid hin
                        clear hin
                        go_wp2
                        have K0 := (show HeldP wr.drew wq.heap.size x.1 by simp only [HeldP]; simpa [go_sem] using HB17.out)
                        have KK : Hid (∀ w', Ext wr w' → HeldP w' wq.heap.size x.1) := fun w' e => ⟨e.cell' HB17.out.1 hzb, e.cell' HB17.out.2 hzb⟩
                        go_region_held3 (fun w' => HeldP w' wq.heap.size x.1)
                          (first
                            | exact K0
                            | assumption
                            | exact KK.out _ (by repeat (first | exact Ext.refl _ | assumption | exact Ext.trans (show Ext wr _ by (repeat (first | exact Ext.refl _ | assumption | refine Ext.alloc ?_ _ | refine Ext.drewN ?_ _ | refine Ext.drew ?_))) yk | refine Ext.alloc ?_ _ | refine Ext.drewN ?_ _ | refine Ext.drew ?_ | refine Ext.setCell ?_ (by simp; try omega) _)))
                          ((first
                            | (go_at_call 136; refine (CM.out _).mono ?_; rintro e wk0 ⟨rfl, rfl⟩)
                            | (go_at_call 58; refine (CN1.out _ (by (repeat (first | exact Ext.refl _ | assumption | refine Ext.alloc ?_ _ | refine Ext.drewN ?_ _ | refine Ext.drew ?_)))).mono ?_; rintro e wk ⟨rfl, yk⟩; have zk := yk.size; (try simp at zk); try (have cn0 := yk.cell' (show (wr.drew.alloc (.cells #[.int .i64 0, .int .i64 0] 71)).cell? ⟨wr.heap.size, 0, none⟩ = some (.int .i64 0) by simp [go_sem]) (by simp); have cn1 := yk.cell' (show (wr.drew.alloc (.cells #[.int .i64 0, .int .i64 0] 71)).cell? ⟨wr.heap.size, 1, none⟩ = some (.int .i64 0) by simp [go_sem]) (by simp); have fn0 := (yk.cells.2 wr.heap.size 0 (by simp)).trans (show (wr.drew.alloc (.cells #[.int .i64 0, .int .i64 0] 71)).frozen? ⟨wr.heap.size, 0, none⟩ = false by simp [go_sem]); have fn1 := (yk.cells.2 wr.heap.size 1 (by simp)).trans (show (wr.drew.alloc (.cells #[.int .i64 0, .int .i64 0] 71)).frozen? ⟨wr.heap.size, 1, none⟩ = false by simp [go_sem]); have zn : wr.heap.size < wk.heap.size := (by omega)))))
                        all_goals
                          first
                            | (refine world_cut (w0 := wr) (b := wr.heap.size) (u0 := .int .i64 (p1.1 : Nat)) (u1 := .int .i64 (p1.2 : Nat)) (by repeat (first | exact Ext.refl _ | assumption | exact Ext.trans (show Ext wr _ by (repeat (first | exact Ext.refl _ | assumption | refine Ext.alloc ?_ _ | refine Ext.drewN ?_ _ | refine Ext.drew ?_))) yk | refine Ext.alloc ?_ _ | refine Ext.drewN ?_ _ | refine Ext.drew ?_ | refine Ext.setCell ?_ (by simp; try omega) _)) (by simp [go_sem, cn0]) (by simp [go_sem, cn1]) ?_
                               intro w9 x9 d90 d91
                               have hb9 := lt_of_cell d90
                               have hmb9 : w.heap.size + 1 + 1 < wr.heap.size := by omega
                               have HNb : Hid (¬ some (wr.heap.size) = (Value.slice a6 s0.2.length c6).ownBlock) := fun e => by have := (HT6.out.own.lt _ e.symm).2; omega
                               generalize wr.heap.size = b9 at d90 d91 hb9 hmb9 HNb ⊢)
                            | (refine world_cut (w0 := wr) (b := wk.heap.size) (u0 := .int .i64 (p1.1 : Nat)) (u1 := .int .i64 (p1.2 : Nat)) (by repeat (first | exact Ext.refl _ | assumption | exact Ext.trans (show Ext wr _ by (repeat (first | exact Ext.refl _ | assumption | refine Ext.alloc ?_ _ | refine Ext.drewN ?_ _ | refine Ext.drew ?_))) yk | refine Ext.alloc ?_ _ | refine Ext.drewN ?_ _ | refine Ext.drew ?_ | refine Ext.setCell ?_ (by simp; try omega) _)) (by simp [go_sem]) (by simp [go_sem]) ?_
                               intro w9 x9 d90 d91
                               have hb9 := lt_of_cell d90
                               have hmb9 : w.heap.size + 1 + 1 < wk.heap.size := by omega
                               have HNb : Hid (¬ some (wk.heap.size) = (Value.slice a6 s0.2.length c6).ownBlock) := fun e => by have := (HT6.out.own.lt _ e.symm).2; omega
                               generalize wk.heap.size = b9 at d90 d91 hb9 hmb9 HNb ⊢)
                            | fail
                          have X9 := Lib.hid x9
                          have hz9 := x9.size
                          clear x9 zk yk
                          try clear cn0 cn1 fn0 fn1 zn
                          have T9 := Lib.hid (HT6.out.go X9.out)
                          have A9 := Lib.hid (HA6.out.go X9.out)
                          have Q9 := Lib.hid (Nat.le_trans HX6.out hz9)

                          go_wp2_with (first | (refine wpList_look rfl _ _ rfl (w.heap.size + 1 + 1) s0.1 p1 rfl rfl (T9.out.set.ext (by (repeat (first | exact Ext.refl _ | assumption | refine Ext.alloc ?_ _ | refine Ext.drewN ?_ _ | refine Ext.drew ?_)))) false HQ.out ?_) | (refine wpList_put rfl _ _ _ rfl (w.heap.size + 1 + 1) s0.1 p1 rfl rfl rfl (T9.out.set.ext (by (repeat (first | exact Ext.refl _ | assumption | refine Ext.alloc ?_ _ | refine Ext.drewN ?_ _ | refine Ext.drew ?_)))) ?_; intro w6 s6 g6 z6))
                          rw [if_neg HNq.out] at s6
                          have T6' := Lib.hid ((T9.out.go (by (repeat (first | exact Ext.refl _ | assumption | refine Ext.alloc ?_ _ | refine Ext.drewN ?_ _ | refine Ext.drew ?_)))).put (by omega) g6 s6)
                          have A6' := Lib.hid ((A9.out.go (by (repeat (first | exact Ext.refl _ | assumption | refine Ext.alloc ?_ _ | refine Ext.drewN ?_ _ | refine Ext.drew ?_)))).put g6 (T9.out.set.ext (by (repeat (first | exact Ext.refl _ | assumption | refine Ext.alloc ?_ _ | refine Ext.drewN ?_ _ | refine Ext.drew ?_)))) (by omega))
                          have b60 := g6.cell ((show Ext w9 _ by (repeat (first | exact Ext.refl _ | assumption | refine Ext.alloc ?_ _ | refine Ext.drewN ?_ _ | refine Ext.drew ?_))).cell' d90 hb9) (by simp; omega)
                          have b61 := g6.cell ((show Ext w9 _ by (repeat (first | exact Ext.refl _ | assumption | refine Ext.alloc ?_ _ | refine Ext.drewN ?_ _ | refine Ext.drew ?_))).cell' d91 hb9) (by simp; omega)
                          have zz6 := g6.size
                          clear s6 g6 z6
                          have c26 := A6'.out.c2
                          rw [HNX.out] at c26
                          have z26 := lt_of_cell c26
                          have zb6 := lt_of_cell b60
                          obtain ⟨tr2, htr2⟩ : ∃ t, x.2 ++ [(A : Int), 16 + (C : Int)] = t := ⟨_, rfl⟩
                          have HTl : Hid (tr2.length = nx + 2) := by unfold Hid; rw [← htr2, ← HNX.out]; simp
                          have HTr := Lib.hid htr2
                          clear htr2
                          have HFr : Hid (far = (p1, tr2)) := by unfold Hid; rw [HFar.out, HTr.out]
                          have CC6 : Hid (∀ w', Ext w6 w' → Calls Tryz.prog 135 #[.slice ai nx ci] w' (RetI 3 w' x.2)) := fun w' e => by
                            rw [← HNX.out]; exact cloneT_c ai ci x.2 w' ((A6'.out.ints.ext e).1) (by rw [HNX.out]; omega) (fun h => R5.out (by rw [← HNX.out]; exact h))
                          have HLit : Hid (∀ w', Ext (w6.alloc (.cells #[.int .i64 (A : Int), .int .i64 (16 + (C : Int))] 3)) w' → IntsAt w' (some ⟨w6.heap.size, 0, none⟩) [(A : Int), 16 + (C : Int)]) := fun w' e => (own_lit2 w6 w6.heap.size 3 (A : Int) (16 + (C : Int)) (Nat.le_refl _)).ints.ext e
                          have KQ : Hid (∀ w', Ext w6 w' → HeldQ w' b9 wq.heap.size nx p1 ai ci) := fun w' e => ⟨e.cell' b60 zb6, e.cell' b61 zb6, e.cell' c26 z26⟩
                          go_wp2
                          have K1 := (show HeldQ w6.drew b9 wq.heap.size nx p1 ai ci from KQ.out _ (by (repeat (first | exact Ext.refl _ | assumption | refine Ext.alloc ?_ _ | refine Ext.drewN ?_ _ | refine Ext.drew ?_))))
                          go_region_held3 (fun w' => HeldQ w' b9 wq.heap.size nx p1 ai ci)
                            (first
                              | exact K1
                              | assumption
                              | exact ⟨f0', f1', f2'⟩
                              | exact KQ.out _ (X10.out.trans (by (repeat (first | exact Ext.refl _ | assumption | refine Ext.alloc ?_ _ | refine Ext.drewN ?_ _ | refine Ext.drew ?_))))
                              | exact KQ.out _ (Y8.out.trans (by (repeat (first | exact Ext.refl _ | assumption | refine Ext.alloc ?_ _ | refine Ext.drewN ?_ _ | refine Ext.drew ?_))))
                              | exact KQ.out _ (by (repeat (first | exact Ext.refl _ | assumption | refine Ext.alloc ?_ _ | refine Ext.drewN ?_ _ | refine Ext.drew ?_))))
                            ((first
                              | (go_at_call 135; refine (CC6.out _ (by (repeat (first | exact Ext.refl _ | assumption | refine Ext.alloc ?_ _ | refine Ext.drewN ?_ _ | refine Ext.drew ?_)))).mono ?_; rintro e wk2 ⟨v8, rfl, o8, y8⟩; obtain ⟨a8, c8, rfl, -⟩ := o8.shape
                                 have Y8 := Lib.hid (Ext.trans (show Ext w6 _ by (repeat (first | exact Ext.refl _ | assumption | refine Ext.alloc ?_ _ | refine Ext.drewN ?_ _ | refine Ext.drew ?_))) y8)
                                 have e0 := Y8.out.cell' b60 zb6
                                 have e1 := Y8.out.cell' b61 zb6
                                 have e2 := Y8.out.cell' c26 z26
                                 have O8 := Lib.hid (OwnI.mono o8 (B' := w6.heap.size) (by (try simp)))
                                 have zk2 := Y8.out.size
                                 have zb2 := Nat.lt_of_lt_of_le zb6 zk2
                                 have z28 := Nat.lt_of_lt_of_le z26 zk2
                                 clear o8)
                              | (refine astep_append_ints rfl _ _ _ rfl w6.heap.size 3 Tryz.underlying23 infoInt _ x.2 rfl (O8.out.ext (by (repeat (first | exact Ext.refl _ | assumption | refine Ext.alloc ?_ _ | refine Ext.drewN ?_ _ | refine Ext.drew ?_)))) _ _ [(A : Int), 16 + (C : Int)] rfl (by first | exact (own_lit2 _ _ _ _ _ (Nat.le_refl _)).ints | exact ((own_lit2 _ _ _ _ _ (Nat.le_refl _)).ints).ext (by (repeat (first | exact Ext.refl _ | assumption | refine Ext.alloc ?_ _ | refine Ext.drewN ?_ _ | refine Ext.drew ?_))) | exact HLit.out _ (Ext.trans (by (repeat (first | exact Ext.refl _ | assumption | refine Ext.alloc ?_ _ | refine Ext.drewN ?_ _ | refine Ext.drew ?_))) y8) | exact HLit.out _ (Ext.trans (Ext.trans (by (repeat (first | exact Ext.refl _ | assumption | refine Ext.alloc ?_ _ | refine Ext.drewN ?_ _ | refine Ext.drew ?_))) y8) (by (repeat (first | exact Ext.refl _ | assumption | refine Ext.alloc ?_ _ | refine Ext.drewN ?_ _ | refine Ext.drew ?_)))) | fail) (by rw [HNX.out]; simp; omega) (by (try simp); omega) ?_
                                 intro v10 w10 o10 g10
                                 have X10 := Lib.hid (OwnI.grown (w0 := w6) (O8.out.ext (by (repeat (first | exact Ext.refl _ | assumption | refine Ext.alloc ?_ _ | refine Ext.drewN ?_ _ | refine Ext.drew ?_)))) (Y8.out.trans (by (repeat (first | exact Ext.refl _ | assumption | refine Ext.alloc ?_ _ | refine Ext.drewN ?_ _ | refine Ext.drew ?_)))) g10)
                                 rw [HTr.out] at o10
                                 obtain ⟨a10, c10, rfl, -⟩ := o10.shape
                                 have O10 := Lib.hid o10
                                 have f0 := X10.out.cell' b60 zb6
                                 have f1 := X10.out.cell' b61 zb6
                                 have f2 := X10.out.cell' c26 z26
                                 have z10 := X10.out.size
                                 have zb10 := Nat.lt_of_lt_of_le zb6 z10
                                 have z20 := Nat.lt_of_lt_of_le z26 z10
                                 have T10 := Lib.hid (T6'.out.go X10.out)
                                 have A10 := Lib.hid (A6'.out.go X10.out)
                                 clear o10 g10)
                              | (refine step_append_wA rfl _ _ _ rfl wj.heap.size (ek 3) 126 (by decide) Tryz.underlying127 (.agg #[.int .i64 0, .int .i64 0, .slice none 0 0]) rfl 40 (by decide) infoWay _ s0.2 rfl (T10.out.own.ext (by (repeat (first | exact Ext.refl _ | assumption | refine Ext.alloc ?_ _ | refine Ext.drewN ?_ _ | refine Ext.drew ?_)))) _ (p1, tr2) a10 c10 rfl (by simp [go_sem]) (by simp [go_sem]) (by simp [go_sem]) (ownI_fit10 O10.out) (O10.out.intsE.ext (by (repeat (first | exact Ext.refl _ | assumption | refine Ext.alloc ?_ _ | refine Ext.drewN ?_ _ | refine Ext.drew ?_)))) (fun h => absurd h (by have := HTl.out; show ¬ tr2.length = 0; omega)) (by omega) (by have := T6'.out.big; (try simp); omega) ?_
                                 intro v11 w11 o11 g11 wh11
                                 have T11 := Lib.hid ((T10.out.go (by (repeat (first | exact Ext.refl _ | assumption | refine Ext.alloc ?_ _ | refine Ext.drewN ?_ _ | refine Ext.drew ?_)))).push (by decide) (by omega) g11 o11)
                                 have A11 := Lib.hid ((A10.out.go (by (repeat (first | exact Ext.refl _ | assumption | refine Ext.alloc ?_ _ | refine Ext.drewN ?_ _ | refine Ext.drew ?_)))).push g11 ((T10.out.go (by (repeat (first | exact Ext.refl _ | assumption | refine Ext.alloc ?_ _ | refine Ext.drewN ?_ _ | refine Ext.drew ?_)))).own.typed) (by decide) wh11)
                                 obtain ⟨a11, c11, rfl⟩ := o11.shape
                                 have z11 := g11.size
                                 have f0' := g11.cell ((show Ext w10 _ by (repeat (first | exact Ext.refl _ | assumption | refine Ext.alloc ?_ _ | refine Ext.drewN ?_ _ | refine Ext.drew ?_))).cell' f0 zb10) (by simp; exact HNb.out)
                                 have f1' := g11.cell ((show Ext w10 _ by (repeat (first | exact Ext.refl _ | assumption | refine Ext.alloc ?_ _ | refine Ext.drewN ?_ _ | refine Ext.drew ?_))).cell' f1 zb10) (by simp; exact HNb.out)
                                 have f2' := A11.out.c2
                                 rw [HNX.out] at f2'
                                 clear o11 g11 wh11)))
                          all_goals
                            rw [List.length_append, List.length_cons, List.length_nil, Nat.zero_add] at T11 A11
                            go_wp2
                            go_roundw
                            case rel => exact Lib.hid ⟨C + 1, by omega, by go_num, by rw [show 3 * A + (C + 1) = 3 * A + C + 1 from rfl, HS1.out, HStep.out, HFr.out]; exact T11.out.go (by (repeat (first | exact Ext.refl _ | assumption | refine Ext.alloc ?_ _ | refine Ext.drewN ?_ _ | refine Ext.drew ?_))), A11.out.go (by (repeat (first | exact Ext.refl _ | assumption | refine Ext.alloc ?_ _ | refine Ext.drewN ?_ _ | refine Ext.drew ?_))), by have := Q9.out; have := zz6; (try simp at this z11); (try simp); omega⟩
                            case measure => simp [intOf]; omega
                    · obtain rfl : C = 3 := by omega
                      rw [show 3 * A + 3 = 3 * (A + 1) by omega] at HT6
                      go_wp2
                      go_roundw
                      case rel => exact Lib.hid ⟨A + 1, by omega, by go_num, HT6.out, HA6.out, HX6.out⟩
                      case measure => simp [intOf]; omega
                · obtain rfl : A = 4 := by omega
                  rw [show 3 * 4 = 12 from rfl, ← HSuc.out] at HT5
                  go_wp2
                  go_roundw
                  case rel => exact Lib.hid ⟨q + 1, by omega, by go_num, HT5.out⟩
                  case measure => simp [intOf]; omega
            · obtain rfl : q = j := by omega
              rw [← HSt1.out] at HT ⊢
              go_wp2
              go_roundw
              case rel => exact Lib.hid ⟨k + 1, by omega, by go_num, HT.out.own.mono (show w.heap.size + 1 ≤ wj.heap.size by omega), HT.out.set, HDn1.out, HT.out.ext⟩
              case measure => simp [intOf]; omega
    · obtain rfl : k = 21 := by omega
      have hN : dfF E F N M 21 0 = none := by rw [HD.out]; rfl
      have HR2 := Lib.hid (HRet.out none 0 wr none hN ⟨0, 0, fun h => absurd h (by simp), fun i hi => absurd hi (by simp)⟩ HX.out)
      go_wp2
      exact HR2.out
end Go.Proofs.YtlaamecfknkmlaaGreat
