/- Merged texts: contracts and plain lemmas (La, Lb, Lc). -/
import Derived.Test.YtlaamecfknkmlaaGreatGtKd
import Derived.Test.YtlaamecfknkmlaaGreatGt4
import Derived.Deep.DeepAppendRoom
import Derived.Test.YtlaamecfknkmlaaGreatGt1
namespace Go.Kt
set_option linter.unusedVariables false
open Go.RowKit
/-- append of a slice of the call's own: and what the old slice holds then. -/
theorem run_append_both {P : Program} {w : World} (t ty : TypeId) (B E : Nat) (ht : P.underlying t = some (.slice E)) (hinfo : (P.info? E).map (fun i => (i.zero, i.size, i.bytes)) = some (some (.int .i64 0), 1, 8))
    (g cap : Nat) (l r : List Int) (hown : OwnI w B E (.slice (some ⟨g, 0, none⟩) l.length cap) l) (ax : Option Addr) (cx : Nat) (hi : IntsAt w ax r) (hr : 0 < r.length) (hl : 0 < l.length) (hlen : l.length + r.length ≤ 1099511627776) (hB : B ≤ w.heap.size) :
    ∃ v' w', (Builtin.append_ #[t, t] ty #[.slice (some ⟨g, 0, none⟩) l.length cap, .slice ax r.length cx]).run P w = .ok v' w' ∧ OwnI w' B E v' (l ++ r) ∧ w.grownBy w' (some g) ∧ IntsE w' (ek E) (some ⟨g, 0, none⟩) l := by
  obtain ⟨i, hi', hz0, hz1, hz2⟩ := info_parts hinfo
  obtain ⟨b, off, rfl, hc⟩ := ints_src hi hr
  have hc' : ∀ j u, (r.map (Value.int .i64))[j]? = some u → w.cell? ((⟨b, off, none⟩ : Addr).add j) = some u := fun j u hj => by
    have hadd : (⟨b, off, none⟩ : Addr).add j = ⟨b, off + j, none⟩ := by unfold Addr.add; split <;> simp_all
    rw [hadd]; exact hc j u hj
  have hby : (l.length + r.length) * 8 ≤ 140737488355328 := Nat.le_trans (Nat.mul_le_mul_right _ hlen) (by decide)
  by_cases hroom : l.length + r.length ≤ cap
  · obtain ⟨w', h1, h2, h3⟩ := run_append_own_spare (P := P) w B t ty E i 1 ht hi' hz1 g l.length cap _ hown ⟨b, off, none⟩ r.length cx (r.map (Value.int .i64)) (by simp) hc' (flat_one r) hroom
    have ho : OwnI w' B E (.slice (some ⟨g, 0, none⟩) (l.length + r.length) cap) (l ++ r) := by unfold OwnI; rw [List.map_append, List.length_append]; exact h2
    exact ⟨_, w', h1, ho, h3, ho.ints.left, fun b o h0 ha => (OwnI.intsE ho).2 b o (by rw [List.length_append]; omega) ha⟩
  · obtain ⟨v', w', h1, h2, h3, -⟩ := run_append_own (P := P) w B t ty E i _ 1 8 ht hi' hz0 hz1 hz2 rfl (by decide) _ l.length _ hown ⟨b, off, none⟩ r.length cx (r.map (Value.int .i64)) (by simp) hc' (flat_one r) (by unfold maxLen; omega) hby hB
    have hold : ∀ j v, (l.map (Value.int .i64))[j]? = some v → w.cell? ((⟨g, 0, none⟩ : Addr).add j) = some v := fun j u hj => by
      obtain ⟨b2, o2, e2, k2⟩ := ints_src hown.ints hl
      obtain ⟨rfl, rfl⟩ : g = b2 ∧ 0 = o2 := by simpa using e2
      have hadd : (⟨g, 0, none⟩ : Addr).add j = ⟨g, 0 + j, none⟩ := by unfold Addr.add; split <;> simp_all
      rw [hadd]; exact k2 j u hj
    have h4 := run_append_grow (P := P) w t ty E i _ ht hi' hz0 ⟨g, 0, none⟩ l.length cap (l.map (Value.int .i64)) (by rw [hz1]; simp) hold ⟨b, off, none⟩ r.length cx (r.map (Value.int .i64)) (by rw [hz1]; simp) hc' (by omega) (by omega) (growslice_fits (by omega) (by rw [hz2]; exact hby))
    rw [h1] at h4
    injection h4 with h5 h6
    refine ⟨v', w', h1, ?_, h3, (OwnI.intsE hown).ext ?_⟩
    · unfold OwnI; rw [List.map_append, List.length_append]; exact h2
    · rw [h6]; exact (Ext.drew (Ext.refl _)).alloc _
/-- A slice of n numbers, wherever it lies. -/
def HasN (w : World) (a : Option Addr) (n c : Nat) : Prop := n ≤ c ∧ ∃ L : List Int, L.length = n ∧ IntsE w (ek 3) a L
theorem HasN.ext {w w' : World} {a : Option Addr} {n c : Nat} (h : HasN w a n c) (e : Ext w w') : HasN w' a n c := by
  obtain ⟨h1, L, h2, h3⟩ := h
  exact ⟨h1, L, h2, h3.ext e⟩
end Go.Kt
namespace Go.Proofs.YtlaamecfknkmlaaGreat
set_option linter.unusedVariables false
open Go.RowKit Go.Kt
theorem ownI_fit {w : World} {B E n cap : Nat} {a : Option Addr} {l : List Int} (h : OwnI w B E (.slice a n cap) l) : n ≤ cap := by
  rcases h.2 with ⟨hv, _⟩ | ⟨g', cap', cur, hv, _, _, hn', _⟩
  · simp at hv; omega
  · simp at hv; omega
/-- A slice of n numbers of the call's own. -/
def OwnN (w : World) (B : Nat) (a : Option Addr) (n c : Nat) : Prop := ∃ L : List Int, L.length = n ∧ OwnI w B 3 (.slice a n c) L
theorem OwnN.of {w : World} {B n c : Nat} {a : Option Addr} {L : List Int} (h : OwnI w B 3 (.slice a n c) L) (hl : L.length = n) : OwnN w B a n c := ⟨L, hl, h⟩
theorem OwnN.ext {w w' : World} {B n c : Nat} {a : Option Addr} (h : OwnN w B a n c) (e : Ext w w') : OwnN w' B a n c := by
  obtain ⟨L, h1, h2⟩ := h
  exact ⟨L, h1, h2.ext e⟩
theorem OwnN.mono {w : World} {B B' n c : Nat} {a : Option Addr} (h : OwnN w B a n c) (e : B' ≤ B) : OwnN w B' a n c := by
  obtain ⟨L, h1, h2⟩ := h
  exact ⟨L, h1, OwnI.mono h2 e⟩
theorem OwnN.has {w : World} {B n c : Nat} {a : Option Addr} (h : OwnN w B a n c) : HasN w a n c := by
  obtain ⟨L, h1, h2⟩ := h
  exact ⟨ownI_fit h2, L, h1, h2.intsE⟩
def RetN (w : World) (n : Nat) (e : Ending) (w' : World) : Prop := ∃ a c, e = .returned (.slice a n c) ∧ OwnN w' w.heap.size a n c ∧ Ext w w'
theorem joinN_c (a b : Option Addr) (ca cb n m : Nat) (s : Int) (w : World) (ha : HasN w a n ca) (hb : HasN w b m cb) (hn : n ≤ 1000) (hm : m ≤ 1000) :
    Calls Tryz.prog 113 #[.slice a n ca, .slice b m cb, .int .i64 s] w (RetN w (n + m + 1)) := by
  obtain ⟨-, la, rfl, ia⟩ := ha
  obtain ⟨-, lb, rfl, ib⟩ := hb
  refine (l2Join_c a b ca cb la lb s w ia.1 ib.1 (by omega) (by omega)).mono ?_
  rintro e w1 ⟨v1, rfl, o1, x1⟩
  obtain ⟨a1, c1, rfl, -⟩ := o1.shape
  have hl : (la ++ lb ++ [s]).length = la.length + lb.length + 1 := by simp [Nat.add_assoc]
  rw [hl] at o1
  exact ⟨a1, c1, by rw [hl], ⟨_, hl, o1⟩, x1⟩
/-- append to a slice of the call's own, behind w0. -/
theorem any_append_N {ops : Array Oper} {rest : List Oper} {o : Oper} {a : Act} {Q : Exit → Act → World → Prop} {w : World} (hw : Region.wanted o (yielded ops a.tmps) = true) (s x : Operand)
    (ho : o.op = .call { callee := .builtin .append, args := #[s, x], argTypes := #[23, 23] }) (w0 : World) (hx0 : Ext w0 w)
    (ao : Option Addr) (n c : Nat) (hs : a.eval s = .slice ao n c) (hown : OwnN w w0.heap.size ao n c) (ax : Option Addr) (m cx : Nat) (hx : a.eval x = .slice ax m cx) (hi : HasN w ax m cx) (k : Nat) (hk : n + m = k) (hlen : k ≤ 1000000)
    (h : ∀ a' c' w', OwnN w' w0.heap.size a' k c' → Ext w0 w' → wpList Tryz.prog ops Q rest (a.put o.dst (.slice a' k c')) w') : wpList Tryz.prog ops Q (o :: rest) a w := by
  obtain ⟨l, rfl, hown⟩ := hown
  obtain ⟨-, r, rfl, hi⟩ := hi
  refine any_append_ints hw s x 23 ho w0.heap.size 3 Tryz.underlying23 infoInt _ l hs hown ax cx r hx hi.1 (by omega) hx0.size ?_
  intro v' w' o' g'
  obtain ⟨a', c', rfl, -⟩ := o'.shape
  have hl : (l ++ r).length = k := by rw [List.length_append]; exact hk
  rw [hl] at o' ⊢
  exact h a' c' w' ⟨_, hl, o'⟩ (OwnI.grown hown hx0 g')
theorem lit1N (w : World) (x : Int) : HasN (w.alloc (.cells #[.int .i64 x] 3)) (some ⟨w.heap.size, 0, none⟩) 1 1 :=
  ⟨Nat.le_refl _, [x], rfl, (OwnI.lit1 w w.heap.size 3 x (Nat.le_refl _)).intsE⟩
theorem own_lit4 (w : World) (B : Nat) (x y z u : Int) (hB : B ≤ w.heap.size) : OwnI (w.alloc (.cells #[.int .i64 x, .int .i64 y, .int .i64 z, .int .i64 u] 3)) B 3 (.slice (some ⟨w.heap.size, 0, none⟩) 4 4) [x, y, z, u] :=
  World.ownsRow_lit (base := B) (e := 3) (size := 1) w #[.int .i64 x, .int .i64 y, .int .i64 z, .int .i64 u] 4 hB (by unfold maxLen; omega) rfl
set_option maxHeartbeats 1000000 in
theorem sKatActs_c (a : Option Addr) (cap : Nat) (l : List Int) (w : World) (hl : IntsAt w a l) (hlen : l.length ≤ 4194304) :
    Calls Tryz.prog 145 #[.slice a l.length cap] w fun e w' => (∃ x : Int, e = .returned (.int .i64 x)) ∧ w = w' := by
  have HL := Lib.hid hl
  cases hv : kvB l
  · clear hl
    go_enter Tryz.func145, Tryz.ntmps145
    go_wp2_with fail
    refine (sKatValid_c a cap l _ HL.out (by omega)).mono ?_
    rw [hv]
    rintro e w1 ⟨rfl, rfl⟩
    go_wp2
    go_ret
    exact ⟨⟨_, rfl⟩, rfl⟩
  · have h40 := kvB_len hv
    obtain ⟨b, off, h1, h2⟩ := hl
    obtain ⟨rfl, hb⟩ := h1 (by omega)
    have H2 := Lib.hid h2
    have HV := Lib.hid hv
    clear h1 h2 hv
    go_enter Tryz.func145, Tryz.ntmps145
    go_wp2_with fail
    refine (sKatValid_c _ cap l _ HL.out (by omega)).mono ?_
    rw [HV.out]
    rintro e w1 ⟨rfl, rfl⟩
    go_wp2
    go_loop [3, 4] (fun n i => Hid (∃ (k m : Nat), k ≤ l.length ∧ m ≤ k ∧ i = .int .i64 k ∧ n = .int .i64 m)) (fun _ i => l.length - (intOf i).toNat)
    case atStart => exact Lib.hid ⟨0, 0, Nat.zero_le _, Nat.le_refl _, rfl, rfl⟩
    case round =>
      obtain ⟨k, m, hk, hm, rfl, rfl⟩ := hrel.out
      clear hrel
      by_cases hlt : k < l.length
      · have hc := H2.out k hlt
        generalize nth l k = x at *
        have CI : Hid (∀ w' : World, Calls Tryz.prog 61 #[.int .i64 x, .int .i64 16, .int .i64 18] w' fun e w'' => e = .returned (.bool (inB x 16 18)) ∧ w' = w'') := fun w' => l1In_c x 16 18 w'
        cases hp : inB x 16 18
        all_goals
          rw [hp] at CI
          clear hp
          go_wp2_with (go_at_call 61; refine (CI.out _).mono ?_; rintro e w1 ⟨rfl, rfl⟩)
          go_round
          case rel => first
            | exact Lib.hid ⟨k + 1, m, by omega, by omega, by go_num, by go_num⟩
            | exact Lib.hid ⟨k + 1, m + 1, by omega, by omega, by go_num, by go_num⟩
          case measure => simp [intOf]; omega
      · obtain rfl : k = l.length := by omega
        go_wp2
        go_ret
        exact ⟨⟨_, rfl⟩, rfl⟩
end Go.Proofs.YtlaamecfknkmlaaGreat
namespace Go.Proofs.YtlaamecfknkmlaaGreat
set_option linter.unusedVariables false
open Go.RowKit Go.Kt
set_option maxRecDepth 100000 in
set_option maxHeartbeats 1000000 in
theorem l20Small_c (g m : Nat) (n : Int) (w : World) (h : Rd w g m) (hm : m ≤ 60000) :
    Calls Tryz.prog 87 #[.pointer (some ⟨g, 0, none⟩), .int .i64 n] w (DrewL w g (m + 600) 41) := by
  have hg := h.lt
  have HH := Lib.hid h
  clear h
  go_enter Tryz.func87, Tryz.ntmps87
  go_wp2_with fail
  refine (l20Prog_c g m 3 n _ (HH.out.ext (by (repeat (first | exact Ext.refl _ | assumption | refine Ext.alloc ?_ _ | refine Ext.drewN ?_ _ | refine Ext.drew ?_)))) (by omega) (by omega)).mono ?_
  rintro e w1 ⟨v1, L1, rfl, o1, hl1, hr, ht⟩
  have H1 : Hid (WordSt w w1 g (m + 600) v1 L1) := ⟨hg, o1.mono (by (try simp); try omega), hr, ht⟩
  obtain ⟨a1, c1, rfl⟩ := H1.out.shape
  clear o1 hr ht
  go_wp2_with fail
  refine (sKatActs_c a1 c1 L1 _ (H1.out.own.ints.ext (by (repeat (first | exact Ext.refl _ | assumption | refine Ext.alloc ?_ _ | refine Ext.drewN ?_ _ | refine Ext.drew ?_)))) (by omega)).mono ?_
  rintro e w2 ⟨⟨x, rfl⟩, rfl⟩
  have hz1 := H1.out.tch.size
  by_cases hx : 4 < x
  · go_wp2
    go_ret
    exact (H1.out.other (by (repeat (first | exact Ext.refl _ | assumption | refine Ext.alloc ?_ _ | refine Ext.drewN ?_ _ | refine Ext.drew ?_))) (own_lit4 _ _ 16 17 20 21 (by first | omega | (simp; omega)))).drewL (by simp) (by omega)
  · go_wp2
    go_ret
    exact (H1.out.ext (by (repeat (first | exact Ext.refl _ | assumption | refine Ext.alloc ?_ _ | refine Ext.drewN ?_ _ | refine Ext.drew ?_)))).drewL (by omega) (by omega)
def DrewNN (w : World) (g m : Nat) (e : Ending) (w' : World) : Prop :=
  ∃ (a1 a2 : Option Addr) (n1 c1 n2 c2 : Nat), e = .returned (.tuple #[.slice a1 n1 c1, .slice a2 n2 c2]) ∧ HasN w' a1 n1 c1 ∧ HasN w' a2 n2 c2 ∧ n1 ≤ 60 ∧ n2 ≤ 60 ∧ Rd w' g m ∧ Touched w w' g (g + 1)
theorem WordSt.has {w wr : World} {g m c : Nat} {a : Option Addr} {L : List Int} (h : WordSt w wr g m (.slice a L.length c) L) : HasN wr a L.length c := ⟨ownI_fit h.own, L, rfl, h.own.intsE⟩
theorem HasN.drawn {w w' : World} {a : Option Addr} {n c g : Nat} {B : Nat} (h : OwnN w B a n c) (t : Touched w w' g (g + 1)) (hg : g < B) : OwnN w' B a n c := by
  obtain ⟨L, h1, h2⟩ := h
  exact ⟨L, h1, OwnI.drawn h2 t hg⟩
/-- What is drawn, and what is made of it. -/
structure LawSt (w w0 : World) (g m : Nat) : Prop where
  rd : Rd w0 g m
  tch : Touched w w0 g (g + 1)
theorem LawSt.fin {w w0 w' : World} {g m M n1 c1 n2 c2 : Nat} {a1 a2 : Option Addr} (h : LawSt w w0 g m) (x : Ext w0 w') (k1 : HasN w' a1 n1 c1) (k2 : HasN w' a2 n2 c2) (h1 : n1 ≤ 60) (h2 : n2 ≤ 60) (hM : m ≤ M) : DrewNN w g M (.returned (.tuple #[.slice a1 n1 c1, .slice a2 n2 c2])) w' :=
  ⟨a1, a2, n1, c1, n2, c2, rfl, k1, k2, h1, h2, (h.rd.ext x).mono hM, h.tch.trans (Touched.of_ext x)⟩
theorem kvB_while {l : List Int} {t : Int} (h : kvB l = true) (hl : l.length ≤ 9) (h0 : 0 ≤ t ∧ t ≤ 15) : (inB t 0 15 && kvB l && kvB ([t] ++ l ++ [19] ++ [21] ++ [15 - t] ++ [19])) = true := by
  obtain ⟨x, hg, rfl⟩ := kvB_tree h
  have e : [t] ++ x.words ++ [19] ++ [21] ++ [15 - t] ++ [19] = (Kt.two 19 (.star (.two 19 (.leaf t) x)) (.leaf (15 - t))).words := by simp [Kt.words]
  have hg2 : (Kt.two 19 (.star (.two 19 (.leaf t) x)) (.leaf (15 - t))).Good := ⟨.inl rfl, ⟨.inl rfl, ⟨by omega, by omega⟩, hg⟩, ⟨by omega, by omega⟩⟩
  have hk : kvB ([t] ++ x.words ++ [19] ++ [21] ++ [15 - t] ++ [19]) = true := by
    have hl2 : ([t] ++ x.words ++ [19] ++ [21] ++ [15 - t] ++ [19]).length ≤ 40 := by simp; omega
    rw [e] at hl2 ⊢
    exact kvB_words_true hg2 hl2
  rw [h, hk]
  simp [inB]; omega
/-- append to a slice of the call's own, drawn ahead; and the old slice is as it was. -/
theorem any_append_bothT {ops : Array Oper} {rest : List Oper} {o : Oper} {a : Act} {Q : Exit → Act → World → Prop} {w : World} (hw : Region.wanted o (yielded ops a.tmps) = true) (s x : Operand)
    (ho : o.op = .call { callee := .builtin .append, args := #[s, x], argTypes := #[23, 23] }) (w0 w7 : World) (gr : Nat) (t7 : Touched w0 w7 gr (gr + 1)) (hx : Ext w7 w) (hg : gr < w0.heap.size)
    (ao : Option Addr) (n c : Nat) (hs : a.eval s = .slice ao n c) (hown : OwnN w w0.heap.size ao n c) (ax : Option Addr) (m cx : Nat) (hx' : a.eval x = .slice ax m cx) (hi : HasN w ax m cx) (k : Nat) (hk : n + m = k) (hlen : k ≤ 1000000) (hn : 0 < n) (hm : 0 < m)
    (h : ∀ a' c' w', OwnN w' w0.heap.size a' k c' → HasN w' ao n c → (∀ M, Rd w7 gr M → Rd w' gr M) → Touched w0 w' gr (gr + 1) → wpList Tryz.prog ops Q rest (a.put o.dst (.slice a' k c')) w') : wpList Tryz.prog ops Q (o :: rest) a w := by
  have hfit := hown.has.1
  obtain ⟨l, rfl, hown⟩ := hown
  obtain ⟨-, r, rfl, hi⟩ := hi
  have tw := t7.trans (Touched.of_ext hx)
  obtain ⟨g, cap, hv, hBg, -⟩ := hown.row hn
  obtain ⟨rfl, rfl⟩ : ao = some ⟨g, 0, none⟩ ∧ c = cap := by simpa using hv
  obtain ⟨v', w', h1, h2, h3, h4⟩ := run_append_both (P := Tryz.prog) 23 o.type w0.heap.size 3 Tryz.underlying23 infoInt g c l r hown ax cx hi.1 hm hn (by omega) tw.size
  refine BigFrame.wpList_want hw fun K hK' => ?_
  obtain ⟨a', c', rfl, -⟩ := h2.shape
  have hl : (l ++ r).length = k := by rw [List.length_append]; exact hk
  rw [hl] at h1 h2
  have hk2 := hK' _ _ (h a' c' w' ⟨_, hl, h2⟩ ⟨hfit, l, rfl, h4⟩ (fun M hr => Rd.row (hr.ext hx) h3 (fun k hk => by have := Option.some.inj hk; omega)) (Touched.row tw h3 (fun k hk => by have := Option.some.inj hk; omega)))
  unfold Oper.wp execOp
  simp only [ho, resolve, invoke, builtin, Sem.run_bind, Sem.run_pure, Result.andThen_ok, List.map_toArray, List.map_cons, List.map_nil, hs, hx', h1]
  exact hk2
set_option maxRecDepth 100000 in
set_option maxHeartbeats 8000000 in
theorem l20Laws_c (g m : Nat) (w : World) (h : Rd w g m) (hm : m ≤ 50000) :
    Calls Tryz.prog 52 #[.pointer (some ⟨g, 0, none⟩)] w (DrewNN w g (m + 1300)) := by
  have hg := h.lt
  have HH := Lib.hid h
  clear h
  go_enter Tryz.func52, Tryz.ntmps52
  go_wp2_with fail
  refine (l20Small_c g m 14 _ (HH.out.ext (by (repeat (first | exact Ext.refl _ | assumption | refine Ext.alloc ?_ _ | refine Ext.drewN ?_ _ | refine Ext.drew ?_)))) (by omega)).mono ?_
  rintro e w1 ⟨v1, L1, rfl, o1, hl1, hr1, ht1⟩
  have H1 : Hid (WordSt w w1 g (m + 600) v1 L1) := ⟨hg, o1.mono (by (try simp); try omega), hr1, ht1⟩
  obtain ⟨a1, c1, rfl⟩ := H1.out.shape
  have hz1 := ht1.size
  clear o1 hr1 ht1
  go_wp2_with fail
  refine (l20Leaf_c g _ _ (H1.out.rd.ext (by (repeat (first | exact Ext.refl _ | assumption | refine Ext.alloc ?_ _ | refine Ext.drewN ?_ _ | refine Ext.drew ?_)))) (by omega)).mono ?_
  rintro e w2 ⟨v2, L2, rfl, o2, hl2, hr2, ht2⟩
  have H2 := Lib.hid (H1.out.drawn (by (repeat (first | exact Ext.refl _ | assumption | refine Ext.alloc ?_ _ | refine Ext.drewN ?_ _ | refine Ext.drew ?_))) ht2 hr2)
  have K2 : Hid (WordSt w w2 g (m + 600 + 11) v2 L2) := ⟨hg, o2.mono (by (try simp); omega), hr2, H2.out.tch⟩
  obtain ⟨a2, c2, rfl⟩ := K2.out.shape
  have hz2 := H2.out.tch.size
  clear o2 hr2 ht2 H1
  go_wp2_with fail
  refine (l20Leaf_c g _ _ (H2.out.rd.ext (by (repeat (first | exact Ext.refl _ | assumption | refine Ext.alloc ?_ _ | refine Ext.drewN ?_ _ | refine Ext.drew ?_)))) (by omega)).mono ?_
  rintro e w3 ⟨v3, L3, rfl, o3, hl3, hr3, ht3⟩
  have H3 := Lib.hid (H2.out.drawn (by (repeat (first | exact Ext.refl _ | assumption | refine Ext.alloc ?_ _ | refine Ext.drewN ?_ _ | refine Ext.drew ?_))) ht3 hr3)
  have K3 := Lib.hid (K2.out.drawn (by (repeat (first | exact Ext.refl _ | assumption | refine Ext.alloc ?_ _ | refine Ext.drewN ?_ _ | refine Ext.drew ?_))) ht3 hr3)
  have G3 : Hid (WordSt w w3 g (m + 600 + 11 + 11) v3 L3) := ⟨hg, o3.mono (by (try simp); omega), hr3, H3.out.tch⟩
  obtain ⟨a3, c3, rfl⟩ := G3.out.shape
  have hz3 := H3.out.tch.size
  clear o3 hr3 ht3 H2 K2
  have S3 : Hid (LawSt w w3 g (m + 600 + 11 + 11)) := ⟨H3.out.rd, H3.out.tch⟩
  have hz := S3.out.tch.size
  have E3 : Hid (OwnN w3 w.heap.size a1 L1.length c1) := ⟨L1, rfl, H3.out.own⟩
  have F3 : Hid (OwnN w3 w.heap.size a2 L2.length c2) := ⟨L2, rfl, K3.out.own⟩
  have J3 : Hid (OwnN w3 w.heap.size a3 L3.length c3) := ⟨L3, rfl, G3.out.own⟩
  by_cases hk : kvB L1 = true ∧ L1.length ≤ 9
  · obtain ⟨hkv, h9⟩ := hk
    have h9i : ¬ (9 < (L1.length : Int)) := by omega
    have HKv := Lib.hid hkv
    have I1 : Hid (OwnI w3 w.heap.size 3 (.slice a1 L1.length c1) L1) := H3.out.own
    clear hkv H3 K3 G3
    go_wp2_with fail
    refine (sKatValid_c a1 c1 L1 _ (I1.out.ints.ext (by (repeat (first | exact Ext.refl _ | assumption | refine Ext.alloc ?_ _ | refine Ext.drewN ?_ _ | refine Ext.drew ?_)))) (by omega)).mono ?_
    rw [HKv.out]
    rintro e w4 ⟨rfl, rfl⟩
    obtain ⟨n1, hn1⟩ : ∃ n, n = L1.length := ⟨_, rfl⟩
    obtain ⟨n2, hn2⟩ : ∃ n, n = L2.length := ⟨_, rfl⟩
    obtain ⟨n3, hn3⟩ : ∃ n, n = L3.length := ⟨_, rfl⟩
    have HN1 := Lib.hid hn1
    have h1pos : 1 ≤ n1 := by have := (kvB_len HKv.out).1; omega
    rw [← hn1] at E3 hl1 h9 h9i I1 ⊢
    rw [← hn2] at F3 hl2 ⊢
    rw [← hn3] at J3 hl3 ⊢
    clear hn1 hn2 hn3
    go_wp2_with (at_builtin; refine any_append_N (by rfl) _ _ rfl w3 (by (repeat (first | exact Ext.refl _ | assumption | refine Ext.alloc ?_ _ | refine Ext.drewN ?_ _ | refine Ext.drew ?_))) _ _ _ rfl ⟨[], rfl, by first | exact (OwnI.empty _ _).mono (by (try simp)) | exact ((OwnI.empty _ _).ext (by (repeat (first | exact Ext.refl _ | assumption | refine Ext.alloc ?_ _ | refine Ext.drewN ?_ _ | refine Ext.drew ?_)))).mono (by (try simp))⟩ _ _ _ rfl (E3.out.has.ext (by (repeat (first | exact Ext.refl _ | assumption | refine Ext.alloc ?_ _ | refine Ext.drewN ?_ _ | refine Ext.drew ?_)))) n1 (by omega) (by omega) ?_)
    intro a5 c5 w5 o5 x5
    have X5 := Lib.hid x5
    have O5 := Lib.hid o5
    clear x5 o5
    go_wp2_with (at_builtin; refine any_append_N (by rfl) _ _ rfl w3 (X5.out.trans (by (repeat (first | exact Ext.refl _ | assumption | refine Ext.alloc ?_ _ | refine Ext.drewN ?_ _ | refine Ext.drew ?_)))) _ _ _ rfl (O5.out.ext (by (repeat (first | exact Ext.refl _ | assumption | refine Ext.alloc ?_ _ | refine Ext.drewN ?_ _ | refine Ext.drew ?_)))) _ _ _ rfl (by first | exact lit1N _ _ | exact (lit1N _ _).ext (by (repeat (first | exact Ext.refl _ | assumption | refine Ext.alloc ?_ _ | refine Ext.drewN ?_ _ | refine Ext.drew ?_)))) (n1 + 1) rfl (by omega) ?_)
    intro a6 c6 w6 o6 x6
    have T6 := Lib.hid (o6.mono hz)
    have S6 : Hid (LawSt w w6 g (m + 600 + 11 + 11)) := ⟨S3.out.rd.ext x6, S3.out.tch.trans (Touched.of_ext x6)⟩
    have E6 := Lib.hid (E3.out.ext x6)
    have F6 := Lib.hid (F3.out.ext x6)
    have J6 := Lib.hid (J3.out.ext x6)
    have I6 := Lib.hid (OwnI.ext I1.out x6)
    clear x6 o6 X5 O5 S3 E3 F3 J3 I1
    go_wp2_with fail
    refine (pick_c g _ 9 _ (S6.out.rd.ext (by (repeat (first | exact Ext.refl _ | assumption | refine Ext.alloc ?_ _ | refine Ext.drewN ?_ _ | refine Ext.drew ?_)))) (by omega)).mono ?_
    rintro e w7 ⟨y, rfl, hy, hr7, ht7⟩
    have T7 := Lib.hid (HasN.drawn (T6.out.ext (by (repeat (first | exact Ext.refl _ | assumption | refine Ext.alloc ?_ _ | refine Ext.drewN ?_ _ | refine Ext.drew ?_)))) ht7 hg)
    have E7 := Lib.hid (HasN.drawn (E6.out.ext (by (repeat (first | exact Ext.refl _ | assumption | refine Ext.alloc ?_ _ | refine Ext.drewN ?_ _ | refine Ext.drew ?_)))) ht7 hg)
    have F7 := Lib.hid (HasN.drawn (F6.out.ext (by (repeat (first | exact Ext.refl _ | assumption | refine Ext.alloc ?_ _ | refine Ext.drewN ?_ _ | refine Ext.drew ?_)))) ht7 hg)
    have J7 := Lib.hid (HasN.drawn (J6.out.ext (by (repeat (first | exact Ext.refl _ | assumption | refine Ext.alloc ?_ _ | refine Ext.drewN ?_ _ | refine Ext.drew ?_)))) ht7 hg)
    have I7 := Lib.hid (OwnI.drawn (OwnI.ext I6.out (by (repeat (first | exact Ext.refl _ | assumption | refine Ext.alloc ?_ _ | refine Ext.drewN ?_ _ | refine Ext.drew ?_)))) ht7 hg)
    have S7 : Hid (LawSt w w7 g (m + 600 + 11 + 11 + 1)) := ⟨hr7, S6.out.tch.trans (Touched.trans (Touched.of_ext (by (repeat (first | exact Ext.refl _ | assumption | refine Ext.alloc ?_ _ | refine Ext.drewN ?_ _ | refine Ext.drew ?_)))) ht7)⟩
    have hz7 := S7.out.tch.size
    clear hr7 ht7 S6 T6 E6 F6 J6 I6
    rcases (show y = 0 ∨ y = 1 ∨ y = 2 ∨ y = 3 ∨ y = 4 ∨ y = 5 ∨ y = 6 ∨ y = 7 ∨ y = 8 by omega) with rfl | rfl | rfl | rfl | rfl | rfl | rfl | rfl | rfl
    · obtain ⟨k8, hk8⟩ : ∃ k, n1 + (n1 + 1) + 1 = k := ⟨_, rfl⟩
      have hb8 : k8 ≤ 20 := by omega
      have HK8 := Lib.hid hk8
      have JN : Hid (∀ w', Ext w7 w' → ∀ a b ca cb q, HasN w' a n1 ca → HasN w' b (n1 + 1) cb → Calls Tryz.prog 113 #[.slice a n1 ca, .slice b (n1 + 1) cb, .int .i64 q] w' (RetN w' k8)) := fun w' _ a b ca cb q i j => by rw [← HK8.out]; exact joinN_c a b ca cb _ _ q w' i j (by omega) (by omega)
      clear hk8
      go_wp2_with fail
      refine (JN.out _ (by (repeat (first | exact Ext.refl _ | assumption | refine Ext.alloc ?_ _ | refine Ext.drewN ?_ _ | refine Ext.drew ?_))) _ _ _ _ _ (E7.out.has.ext (by (repeat (first | exact Ext.refl _ | assumption | refine Ext.alloc ?_ _ | refine Ext.drewN ?_ _ | refine Ext.drew ?_)))) (T7.out.has.ext (by (repeat (first | exact Ext.refl _ | assumption | refine Ext.alloc ?_ _ | refine Ext.drewN ?_ _ | refine Ext.drew ?_))))).mono ?_
      rintro e w8 ⟨a8, c8, rfl, o8, x8⟩
      have D8 := Lib.hid ((lit1N _ _).ext x8)
      have Z8 := Lib.hid (Ext.trans (show Ext w7 _ by (repeat (first | exact Ext.refl _ | assumption | refine Ext.alloc ?_ _ | refine Ext.drewN ?_ _ | refine Ext.drew ?_))) x8)
      have Op_8 := Lib.hid (o8.mono (B' := w7.heap.size) (by (try simp); try omega))
      clear o8 x8 JN
      have T8 := Lib.hid (T7.out.ext Z8.out)
      clear T7
      have E8 := Lib.hid (E7.out.ext Z8.out)
      clear E7
      have F8 := Lib.hid (F7.out.ext Z8.out)
      clear F7
      have J8 := Lib.hid (J7.out.ext Z8.out)
      clear J7
      have S8 : Hid (LawSt w w8 g _) := ⟨S7.out.rd.ext Z8.out, S7.out.tch.trans (Touched.of_ext Z8.out)⟩
      clear S7 Z8
      obtain ⟨k9, hk9⟩ : ∃ k, 1 + k8 + 1 = k := ⟨_, rfl⟩
      have hb9 : k9 ≤ 22 := by omega
      have HK9 := Lib.hid hk9
      have JN : Hid (∀ w', Ext w8 w' → ∀ a b ca cb q, HasN w' a 1 ca → HasN w' b k8 cb → Calls Tryz.prog 113 #[.slice a 1 ca, .slice b k8 cb, .int .i64 q] w' (RetN w' k9)) := fun w' _ a b ca cb q i j => by rw [← HK9.out]; exact joinN_c a b ca cb _ _ q w' i j (by omega) (by omega)
      clear hk9
      go_wp2_with fail
      refine (JN.out _ (by (repeat (first | exact Ext.refl _ | assumption | refine Ext.alloc ?_ _ | refine Ext.drewN ?_ _ | refine Ext.drew ?_))) _ _ _ _ _ (D8.out.ext (by (repeat (first | exact Ext.refl _ | assumption | refine Ext.alloc ?_ _ | refine Ext.drewN ?_ _ | refine Ext.drew ?_)))) (Op_8.out.has.ext (by (repeat (first | exact Ext.refl _ | assumption | refine Ext.alloc ?_ _ | refine Ext.drewN ?_ _ | refine Ext.drew ?_))))).mono ?_
      rintro e w9 ⟨a9, c9, rfl, o9, x9⟩
      have Z9 := Lib.hid (Ext.trans (show Ext w8 _ by (repeat (first | exact Ext.refl _ | assumption | refine Ext.alloc ?_ _ | refine Ext.drewN ?_ _ | refine Ext.drew ?_))) x9)
      have Oq_9 := Lib.hid (o9.mono (B' := w8.heap.size) (by (try simp); try omega))
      clear o9 x9 JN
      have T9 := Lib.hid (T8.out.ext Z9.out)
      clear T8
      have E9 := Lib.hid (E8.out.ext Z9.out)
      clear E8
      have F9 := Lib.hid (F8.out.ext Z9.out)
      clear F8
      have J9 := Lib.hid (J8.out.ext Z9.out)
      clear J8
      have Op_9 := Lib.hid (Op_8.out.ext Z9.out)
      clear Op_8
      have D9 := Lib.hid (D8.out.ext Z9.out)
      clear D8
      have S9 : Hid (LawSt w w9 g _) := ⟨S8.out.rd.ext Z9.out, S8.out.tch.trans (Touched.of_ext Z9.out)⟩
      clear S8 Z9
      go_wp2
      go_ret2
      exact S9.out.fin (by (repeat (first | exact Ext.refl _ | assumption | refine Ext.alloc ?_ _ | refine Ext.drewN ?_ _ | refine Ext.drew ?_))) (T9.out.has.ext (by (repeat (first | exact Ext.refl _ | assumption | refine Ext.alloc ?_ _ | refine Ext.drewN ?_ _ | refine Ext.drew ?_)))) (Oq_9.out.has.ext (by (repeat (first | exact Ext.refl _ | assumption | refine Ext.alloc ?_ _ | refine Ext.drewN ?_ _ | refine Ext.drew ?_)))) (by omega) (by omega) (by omega)
    · obtain ⟨k8, hk8⟩ : ∃ k, n1 + n2 + 1 = k := ⟨_, rfl⟩
      have hb8 : k8 ≤ 11 := by omega
      have HK8 := Lib.hid hk8
      have JN : Hid (∀ w', Ext w7 w' → ∀ a b ca cb q, HasN w' a n1 ca → HasN w' b n2 cb → Calls Tryz.prog 113 #[.slice a n1 ca, .slice b n2 cb, .int .i64 q] w' (RetN w' k8)) := fun w' _ a b ca cb q i j => by rw [← HK8.out]; exact joinN_c a b ca cb _ _ q w' i j (by omega) (by omega)
      clear hk8
      go_wp2_with fail
      refine (JN.out _ (by (repeat (first | exact Ext.refl _ | assumption | refine Ext.alloc ?_ _ | refine Ext.drewN ?_ _ | refine Ext.drew ?_))) _ _ _ _ _ (E7.out.has.ext (by (repeat (first | exact Ext.refl _ | assumption | refine Ext.alloc ?_ _ | refine Ext.drewN ?_ _ | refine Ext.drew ?_)))) (F7.out.has.ext (by (repeat (first | exact Ext.refl _ | assumption | refine Ext.alloc ?_ _ | refine Ext.drewN ?_ _ | refine Ext.drew ?_))))).mono ?_
      rintro e w8 ⟨a8, c8, rfl, o8, x8⟩
      have Z8 := Lib.hid (Ext.trans (show Ext w7 _ by (repeat (first | exact Ext.refl _ | assumption | refine Ext.alloc ?_ _ | refine Ext.drewN ?_ _ | refine Ext.drew ?_))) x8)
      have Op_8 := Lib.hid (o8.mono (B' := w7.heap.size) (by (try simp); try omega))
      clear o8 x8 JN
      go_wp2_with (at_builtin; refine any_append_N (by rfl) _ _ rfl w7 (Z8.out.trans (by (repeat (first | exact Ext.refl _ | assumption | refine Ext.alloc ?_ _ | refine Ext.drewN ?_ _ | refine Ext.drew ?_)))) _ _ _ rfl (Op_8.out.ext (by (repeat (first | exact Ext.refl _ | assumption | refine Ext.alloc ?_ _ | refine Ext.drewN ?_ _ | refine Ext.drew ?_)))) _ _ _ rfl (by first | exact lit1N _ _ | exact (lit1N _ _).ext (by (repeat (first | exact Ext.refl _ | assumption | refine Ext.alloc ?_ _ | refine Ext.drewN ?_ _ | refine Ext.drew ?_)))) (k8 + 1) rfl (by omega) ?_)
      intro a9 c9 w9 o9 x9
      have Z9 := Lib.hid x9
      have Op_9 := Lib.hid o9
      clear o9 x9 Op_8 Z8
      have T9 := Lib.hid (T7.out.ext Z9.out)
      clear T7
      have E9 := Lib.hid (E7.out.ext Z9.out)
      clear E7
      have F9 := Lib.hid (F7.out.ext Z9.out)
      clear F7
      have J9 := Lib.hid (J7.out.ext Z9.out)
      clear J7
      have S9 : Hid (LawSt w w9 g _) := ⟨S7.out.rd.ext Z9.out, S7.out.tch.trans (Touched.of_ext Z9.out)⟩
      clear S7 Z9
      obtain ⟨k10, hk10⟩ : ∃ k, n2 + (n1 + 1) + 1 = k := ⟨_, rfl⟩
      have hb10 : k10 ≤ 12 := by omega
      have HK10 := Lib.hid hk10
      have JN : Hid (∀ w', Ext w9 w' → ∀ a b ca cb q, HasN w' a n2 ca → HasN w' b (n1 + 1) cb → Calls Tryz.prog 113 #[.slice a n2 ca, .slice b (n1 + 1) cb, .int .i64 q] w' (RetN w' k10)) := fun w' _ a b ca cb q i j => by rw [← HK10.out]; exact joinN_c a b ca cb _ _ q w' i j (by omega) (by omega)
      clear hk10
      go_wp2_with fail
      refine (JN.out _ (by (repeat (first | exact Ext.refl _ | assumption | refine Ext.alloc ?_ _ | refine Ext.drewN ?_ _ | refine Ext.drew ?_))) _ _ _ _ _ (F9.out.has.ext (by (repeat (first | exact Ext.refl _ | assumption | refine Ext.alloc ?_ _ | refine Ext.drewN ?_ _ | refine Ext.drew ?_)))) (T9.out.has.ext (by (repeat (first | exact Ext.refl _ | assumption | refine Ext.alloc ?_ _ | refine Ext.drewN ?_ _ | refine Ext.drew ?_))))).mono ?_
      rintro e w10 ⟨a10, c10, rfl, o10, x10⟩
      have Z10 := Lib.hid (Ext.trans (show Ext w9 _ by (repeat (first | exact Ext.refl _ | assumption | refine Ext.alloc ?_ _ | refine Ext.drewN ?_ _ | refine Ext.drew ?_))) x10)
      have Oq_10 := Lib.hid (o10.mono (B' := w9.heap.size) (by (try simp); try omega))
      clear o10 x10 JN
      go_wp2_with (at_builtin; refine any_append_N (by rfl) _ _ rfl w9 (Z10.out.trans (by (repeat (first | exact Ext.refl _ | assumption | refine Ext.alloc ?_ _ | refine Ext.drewN ?_ _ | refine Ext.drew ?_)))) _ _ _ rfl (Oq_10.out.ext (by (repeat (first | exact Ext.refl _ | assumption | refine Ext.alloc ?_ _ | refine Ext.drewN ?_ _ | refine Ext.drew ?_)))) _ _ _ rfl (by first | exact lit1N _ _ | exact (lit1N _ _).ext (by (repeat (first | exact Ext.refl _ | assumption | refine Ext.alloc ?_ _ | refine Ext.drewN ?_ _ | refine Ext.drew ?_)))) (k10 + 1) rfl (by omega) ?_)
      intro a11 c11 w11 o11 x11
      have Z11 := Lib.hid x11
      have Oq_11 := Lib.hid o11
      clear o11 x11 Oq_10 Z10
      have T11 := Lib.hid (T9.out.ext Z11.out)
      clear T9
      have E11 := Lib.hid (E9.out.ext Z11.out)
      clear E9
      have F11 := Lib.hid (F9.out.ext Z11.out)
      clear F9
      have J11 := Lib.hid (J9.out.ext Z11.out)
      clear J9
      have Op_11 := Lib.hid (Op_9.out.ext Z11.out)
      clear Op_9
      have S11 : Hid (LawSt w w11 g _) := ⟨S9.out.rd.ext Z11.out, S9.out.tch.trans (Touched.of_ext Z11.out)⟩
      clear S9 Z11
      obtain ⟨k12, hk12⟩ : ∃ k, (n1 + 1) + (k10 + 1) + 1 = k := ⟨_, rfl⟩
      have hb12 : k12 ≤ 24 := by omega
      have HK12 := Lib.hid hk12
      have JN : Hid (∀ w', Ext w11 w' → ∀ a b ca cb q, HasN w' a (n1 + 1) ca → HasN w' b (k10 + 1) cb → Calls Tryz.prog 113 #[.slice a (n1 + 1) ca, .slice b (k10 + 1) cb, .int .i64 q] w' (RetN w' k12)) := fun w' _ a b ca cb q i j => by rw [← HK12.out]; exact joinN_c a b ca cb _ _ q w' i j (by omega) (by omega)
      clear hk12
      go_wp2_with fail
      refine (JN.out _ (by (repeat (first | exact Ext.refl _ | assumption | refine Ext.alloc ?_ _ | refine Ext.drewN ?_ _ | refine Ext.drew ?_))) _ _ _ _ _ (T11.out.has.ext (by (repeat (first | exact Ext.refl _ | assumption | refine Ext.alloc ?_ _ | refine Ext.drewN ?_ _ | refine Ext.drew ?_)))) (Oq_11.out.has.ext (by (repeat (first | exact Ext.refl _ | assumption | refine Ext.alloc ?_ _ | refine Ext.drewN ?_ _ | refine Ext.drew ?_))))).mono ?_
      rintro e w12 ⟨a12, c12, rfl, o12, x12⟩
      have Z12 := Lib.hid (Ext.trans (show Ext w11 _ by (repeat (first | exact Ext.refl _ | assumption | refine Ext.alloc ?_ _ | refine Ext.drewN ?_ _ | refine Ext.drew ?_))) x12)
      have Or_12 := Lib.hid (o12.mono (B' := w11.heap.size) (by (try simp); try omega))
      clear o12 x12 JN
      have T12 := Lib.hid (T11.out.ext Z12.out)
      clear T11
      have E12 := Lib.hid (E11.out.ext Z12.out)
      clear E11
      have F12 := Lib.hid (F11.out.ext Z12.out)
      clear F11
      have J12 := Lib.hid (J11.out.ext Z12.out)
      clear J11
      have Op_12 := Lib.hid (Op_11.out.ext Z12.out)
      clear Op_11
      have Oq_12 := Lib.hid (Oq_11.out.ext Z12.out)
      clear Oq_11
      have S12 : Hid (LawSt w w12 g _) := ⟨S11.out.rd.ext Z12.out, S11.out.tch.trans (Touched.of_ext Z12.out)⟩
      clear S11 Z12
      go_wp2
      go_ret2
      exact S12.out.fin (by (repeat (first | exact Ext.refl _ | assumption | refine Ext.alloc ?_ _ | refine Ext.drewN ?_ _ | refine Ext.drew ?_))) (Op_12.out.has.ext (by (repeat (first | exact Ext.refl _ | assumption | refine Ext.alloc ?_ _ | refine Ext.drewN ?_ _ | refine Ext.drew ?_)))) (Or_12.out.has.ext (by (repeat (first | exact Ext.refl _ | assumption | refine Ext.alloc ?_ _ | refine Ext.drewN ?_ _ | refine Ext.drew ?_)))) (by omega) (by omega) (by omega)
    · obtain ⟨k8, hk8⟩ : ∃ k, n1 + n2 + 1 = k := ⟨_, rfl⟩
      have hb8 : k8 ≤ 11 := by omega
      have HK8 := Lib.hid hk8
      have JN : Hid (∀ w', Ext w7 w' → ∀ a b ca cb q, HasN w' a n1 ca → HasN w' b n2 cb → Calls Tryz.prog 113 #[.slice a n1 ca, .slice b n2 cb, .int .i64 q] w' (RetN w' k8)) := fun w' _ a b ca cb q i j => by rw [← HK8.out]; exact joinN_c a b ca cb _ _ q w' i j (by omega) (by omega)
      clear hk8
      go_wp2_with fail
      refine (JN.out _ (by (repeat (first | exact Ext.refl _ | assumption | refine Ext.alloc ?_ _ | refine Ext.drewN ?_ _ | refine Ext.drew ?_))) _ _ _ _ _ (E7.out.has.ext (by (repeat (first | exact Ext.refl _ | assumption | refine Ext.alloc ?_ _ | refine Ext.drewN ?_ _ | refine Ext.drew ?_)))) (F7.out.has.ext (by (repeat (first | exact Ext.refl _ | assumption | refine Ext.alloc ?_ _ | refine Ext.drewN ?_ _ | refine Ext.drew ?_))))).mono ?_
      rintro e w8 ⟨a8, c8, rfl, o8, x8⟩
      have Z8 := Lib.hid (Ext.trans (show Ext w7 _ by (repeat (first | exact Ext.refl _ | assumption | refine Ext.alloc ?_ _ | refine Ext.drewN ?_ _ | refine Ext.drew ?_))) x8)
      have Op_8 := Lib.hid (o8.mono (B' := w7.heap.size) (by (try simp); try omega))
      clear o8 x8 JN
      go_wp2_with (at_builtin; refine any_append_N (by rfl) _ _ rfl w7 (Z8.out.trans (by (repeat (first | exact Ext.refl _ | assumption | refine Ext.alloc ?_ _ | refine Ext.drewN ?_ _ | refine Ext.drew ?_)))) _ _ _ rfl (Op_8.out.ext (by (repeat (first | exact Ext.refl _ | assumption | refine Ext.alloc ?_ _ | refine Ext.drewN ?_ _ | refine Ext.drew ?_)))) _ _ _ rfl (by first | exact lit1N _ _ | exact (lit1N _ _).ext (by (repeat (first | exact Ext.refl _ | assumption | refine Ext.alloc ?_ _ | refine Ext.drewN ?_ _ | refine Ext.drew ?_)))) (k8 + 1) rfl (by omega) ?_)
      intro a9 c9 w9 o9 x9
      have Z9 := Lib.hid x9
      have Op_9 := Lib.hid o9
      clear o9 x9 Op_8 Z8
      have T9 := Lib.hid (T7.out.ext Z9.out)
      clear T7
      have E9 := Lib.hid (E7.out.ext Z9.out)
      clear E7
      have F9 := Lib.hid (F7.out.ext Z9.out)
      clear F7
      have J9 := Lib.hid (J7.out.ext Z9.out)
      clear J7
      have S9 : Hid (LawSt w w9 g _) := ⟨S7.out.rd.ext Z9.out, S7.out.tch.trans (Touched.of_ext Z9.out)⟩
      clear S7 Z9
      obtain ⟨k10, hk10⟩ : ∃ k, (k8 + 1) + n1 + 1 = k := ⟨_, rfl⟩
      have hb10 : k10 ≤ 22 := by omega
      have HK10 := Lib.hid hk10
      have JN : Hid (∀ w', Ext w9 w' → ∀ a b ca cb q, HasN w' a (k8 + 1) ca → HasN w' b n1 cb → Calls Tryz.prog 113 #[.slice a (k8 + 1) ca, .slice b n1 cb, .int .i64 q] w' (RetN w' k10)) := fun w' _ a b ca cb q i j => by rw [← HK10.out]; exact joinN_c a b ca cb _ _ q w' i j (by omega) (by omega)
      clear hk10
      go_wp2_with fail
      refine (JN.out _ (by (repeat (first | exact Ext.refl _ | assumption | refine Ext.alloc ?_ _ | refine Ext.drewN ?_ _ | refine Ext.drew ?_))) _ _ _ _ _ (Op_9.out.has.ext (by (repeat (first | exact Ext.refl _ | assumption | refine Ext.alloc ?_ _ | refine Ext.drewN ?_ _ | refine Ext.drew ?_)))) (E9.out.has.ext (by (repeat (first | exact Ext.refl _ | assumption | refine Ext.alloc ?_ _ | refine Ext.drewN ?_ _ | refine Ext.drew ?_))))).mono ?_
      rintro e w10 ⟨a10, c10, rfl, o10, x10⟩
      have Z10 := Lib.hid (Ext.trans (show Ext w9 _ by (repeat (first | exact Ext.refl _ | assumption | refine Ext.alloc ?_ _ | refine Ext.drewN ?_ _ | refine Ext.drew ?_))) x10)
      have Oq_10 := Lib.hid (o10.mono (B' := w9.heap.size) (by (try simp); try omega))
      clear o10 x10 JN
      have T10 := Lib.hid (T9.out.ext Z10.out)
      clear T9
      have E10 := Lib.hid (E9.out.ext Z10.out)
      clear E9
      have F10 := Lib.hid (F9.out.ext Z10.out)
      clear F9
      have J10 := Lib.hid (J9.out.ext Z10.out)
      clear J9
      have Op_10 := Lib.hid (Op_9.out.ext Z10.out)
      clear Op_9
      have S10 : Hid (LawSt w w10 g _) := ⟨S9.out.rd.ext Z10.out, S9.out.tch.trans (Touched.of_ext Z10.out)⟩
      clear S9 Z10
      obtain ⟨k11, hk11⟩ : ∃ k, n2 + n1 + 1 = k := ⟨_, rfl⟩
      have hb11 : k11 ≤ 11 := by omega
      have HK11 := Lib.hid hk11
      have JN : Hid (∀ w', Ext w10 w' → ∀ a b ca cb q, HasN w' a n2 ca → HasN w' b n1 cb → Calls Tryz.prog 113 #[.slice a n2 ca, .slice b n1 cb, .int .i64 q] w' (RetN w' k11)) := fun w' _ a b ca cb q i j => by rw [← HK11.out]; exact joinN_c a b ca cb _ _ q w' i j (by omega) (by omega)
      clear hk11
      go_wp2_with fail
      refine (JN.out _ (by (repeat (first | exact Ext.refl _ | assumption | refine Ext.alloc ?_ _ | refine Ext.drewN ?_ _ | refine Ext.drew ?_))) _ _ _ _ _ (F10.out.has.ext (by (repeat (first | exact Ext.refl _ | assumption | refine Ext.alloc ?_ _ | refine Ext.drewN ?_ _ | refine Ext.drew ?_)))) (E10.out.has.ext (by (repeat (first | exact Ext.refl _ | assumption | refine Ext.alloc ?_ _ | refine Ext.drewN ?_ _ | refine Ext.drew ?_))))).mono ?_
      rintro e w11 ⟨a11, c11, rfl, o11, x11⟩
      have Z11 := Lib.hid (Ext.trans (show Ext w10 _ by (repeat (first | exact Ext.refl _ | assumption | refine Ext.alloc ?_ _ | refine Ext.drewN ?_ _ | refine Ext.drew ?_))) x11)
      have Or_11 := Lib.hid (o11.mono (B' := w10.heap.size) (by (try simp); try omega))
      clear o11 x11 JN
      go_wp2_with (at_builtin; refine any_append_N (by rfl) _ _ rfl w10 (Z11.out.trans (by (repeat (first | exact Ext.refl _ | assumption | refine Ext.alloc ?_ _ | refine Ext.drewN ?_ _ | refine Ext.drew ?_)))) _ _ _ rfl (Or_11.out.ext (by (repeat (first | exact Ext.refl _ | assumption | refine Ext.alloc ?_ _ | refine Ext.drewN ?_ _ | refine Ext.drew ?_)))) _ _ _ rfl (by first | exact lit1N _ _ | exact (lit1N _ _).ext (by (repeat (first | exact Ext.refl _ | assumption | refine Ext.alloc ?_ _ | refine Ext.drewN ?_ _ | refine Ext.drew ?_)))) (k11 + 1) rfl (by omega) ?_)
      intro a12 c12 w12 o12 x12
      have Z12 := Lib.hid x12
      have Or_12 := Lib.hid o12
      clear o12 x12 Or_11 Z11
      have T12 := Lib.hid (T10.out.ext Z12.out)
      clear T10
      have E12 := Lib.hid (E10.out.ext Z12.out)
      clear E10
      have F12 := Lib.hid (F10.out.ext Z12.out)
      clear F10
      have J12 := Lib.hid (J10.out.ext Z12.out)
      clear J10
      have Op_12 := Lib.hid (Op_10.out.ext Z12.out)
      clear Op_10
      have Oq_12 := Lib.hid (Oq_10.out.ext Z12.out)
      clear Oq_10
      have S12 : Hid (LawSt w w12 g _) := ⟨S10.out.rd.ext Z12.out, S10.out.tch.trans (Touched.of_ext Z12.out)⟩
      clear S10 Z12
      obtain ⟨k13, hk13⟩ : ∃ k, n1 + (k11 + 1) + 1 = k := ⟨_, rfl⟩
      have hb13 : k13 ≤ 22 := by omega
      have HK13 := Lib.hid hk13
      have JN : Hid (∀ w', Ext w12 w' → ∀ a b ca cb q, HasN w' a n1 ca → HasN w' b (k11 + 1) cb → Calls Tryz.prog 113 #[.slice a n1 ca, .slice b (k11 + 1) cb, .int .i64 q] w' (RetN w' k13)) := fun w' _ a b ca cb q i j => by rw [← HK13.out]; exact joinN_c a b ca cb _ _ q w' i j (by omega) (by omega)
      clear hk13
      go_wp2_with fail
      refine (JN.out _ (by (repeat (first | exact Ext.refl _ | assumption | refine Ext.alloc ?_ _ | refine Ext.drewN ?_ _ | refine Ext.drew ?_))) _ _ _ _ _ (E12.out.has.ext (by (repeat (first | exact Ext.refl _ | assumption | refine Ext.alloc ?_ _ | refine Ext.drewN ?_ _ | refine Ext.drew ?_)))) (Or_12.out.has.ext (by (repeat (first | exact Ext.refl _ | assumption | refine Ext.alloc ?_ _ | refine Ext.drewN ?_ _ | refine Ext.drew ?_))))).mono ?_
      rintro e w13 ⟨a13, c13, rfl, o13, x13⟩
      have Z13 := Lib.hid (Ext.trans (show Ext w12 _ by (repeat (first | exact Ext.refl _ | assumption | refine Ext.alloc ?_ _ | refine Ext.drewN ?_ _ | refine Ext.drew ?_))) x13)
      have Os_13 := Lib.hid (o13.mono (B' := w12.heap.size) (by (try simp); try omega))
      clear o13 x13 JN
      have T13 := Lib.hid (T12.out.ext Z13.out)
      clear T12
      have E13 := Lib.hid (E12.out.ext Z13.out)
      clear E12
      have F13 := Lib.hid (F12.out.ext Z13.out)
      clear F12
      have J13 := Lib.hid (J12.out.ext Z13.out)
      clear J12
      have Op_13 := Lib.hid (Op_12.out.ext Z13.out)
      clear Op_12
      have Oq_13 := Lib.hid (Oq_12.out.ext Z13.out)
      clear Oq_12
      have Or_13 := Lib.hid (Or_12.out.ext Z13.out)
      clear Or_12
      have S13 : Hid (LawSt w w13 g _) := ⟨S12.out.rd.ext Z13.out, S12.out.tch.trans (Touched.of_ext Z13.out)⟩
      clear S12 Z13
      go_wp2
      go_ret2
      exact S13.out.fin (by (repeat (first | exact Ext.refl _ | assumption | refine Ext.alloc ?_ _ | refine Ext.drewN ?_ _ | refine Ext.drew ?_))) (Oq_13.out.has.ext (by (repeat (first | exact Ext.refl _ | assumption | refine Ext.alloc ?_ _ | refine Ext.drewN ?_ _ | refine Ext.drew ?_)))) (Os_13.out.has.ext (by (repeat (first | exact Ext.refl _ | assumption | refine Ext.alloc ?_ _ | refine Ext.drewN ?_ _ | refine Ext.drew ?_)))) (by omega) (by omega) (by omega)
    · obtain ⟨k8, hk8⟩ : ∃ k, n2 + n3 + 1 = k := ⟨_, rfl⟩
      have hb8 : k8 ≤ 3 := by omega
      have HK8 := Lib.hid hk8
      have JN : Hid (∀ w', Ext w7 w' → ∀ a b ca cb q, HasN w' a n2 ca → HasN w' b n3 cb → Calls Tryz.prog 113 #[.slice a n2 ca, .slice b n3 cb, .int .i64 q] w' (RetN w' k8)) := fun w' _ a b ca cb q i j => by rw [← HK8.out]; exact joinN_c a b ca cb _ _ q w' i j (by omega) (by omega)
      clear hk8
      go_wp2_with fail
      refine (JN.out _ (by (repeat (first | exact Ext.refl _ | assumption | refine Ext.alloc ?_ _ | refine Ext.drewN ?_ _ | refine Ext.drew ?_))) _ _ _ _ _ (F7.out.has.ext (by (repeat (first | exact Ext.refl _ | assumption | refine Ext.alloc ?_ _ | refine Ext.drewN ?_ _ | refine Ext.drew ?_)))) (J7.out.has.ext (by (repeat (first | exact Ext.refl _ | assumption | refine Ext.alloc ?_ _ | refine Ext.drewN ?_ _ | refine Ext.drew ?_))))).mono ?_
      rintro e w8 ⟨a8, c8, rfl, o8, x8⟩
      have Z8 := Lib.hid (Ext.trans (show Ext w7 _ by (repeat (first | exact Ext.refl _ | assumption | refine Ext.alloc ?_ _ | refine Ext.drewN ?_ _ | refine Ext.drew ?_))) x8)
      have Op_8 := Lib.hid (o8.mono (B' := w7.heap.size) (by (try simp); try omega))
      clear o8 x8 JN
      have T8 := Lib.hid (T7.out.ext Z8.out)
      clear T7
      have E8 := Lib.hid (E7.out.ext Z8.out)
      clear E7
      have F8 := Lib.hid (F7.out.ext Z8.out)
      clear F7
      have J8 := Lib.hid (J7.out.ext Z8.out)
      clear J7
      have S8 : Hid (LawSt w w8 g _) := ⟨S7.out.rd.ext Z8.out, S7.out.tch.trans (Touched.of_ext Z8.out)⟩
      clear S7 Z8
      obtain ⟨k9, hk9⟩ : ∃ k, n1 + k8 + 1 = k := ⟨_, rfl⟩
      have hb9 : k9 ≤ 13 := by omega
      have HK9 := Lib.hid hk9
      have JN : Hid (∀ w', Ext w8 w' → ∀ a b ca cb q, HasN w' a n1 ca → HasN w' b k8 cb → Calls Tryz.prog 113 #[.slice a n1 ca, .slice b k8 cb, .int .i64 q] w' (RetN w' k9)) := fun w' _ a b ca cb q i j => by rw [← HK9.out]; exact joinN_c a b ca cb _ _ q w' i j (by omega) (by omega)
      clear hk9
      go_wp2_with fail
      refine (JN.out _ (by (repeat (first | exact Ext.refl _ | assumption | refine Ext.alloc ?_ _ | refine Ext.drewN ?_ _ | refine Ext.drew ?_))) _ _ _ _ _ (E8.out.has.ext (by (repeat (first | exact Ext.refl _ | assumption | refine Ext.alloc ?_ _ | refine Ext.drewN ?_ _ | refine Ext.drew ?_)))) (Op_8.out.has.ext (by (repeat (first | exact Ext.refl _ | assumption | refine Ext.alloc ?_ _ | refine Ext.drewN ?_ _ | refine Ext.drew ?_))))).mono ?_
      rintro e w9 ⟨a9, c9, rfl, o9, x9⟩
      have Z9 := Lib.hid (Ext.trans (show Ext w8 _ by (repeat (first | exact Ext.refl _ | assumption | refine Ext.alloc ?_ _ | refine Ext.drewN ?_ _ | refine Ext.drew ?_))) x9)
      have Oq_9 := Lib.hid (o9.mono (B' := w8.heap.size) (by (try simp); try omega))
      clear o9 x9 JN
      have T9 := Lib.hid (T8.out.ext Z9.out)
      clear T8
      have E9 := Lib.hid (E8.out.ext Z9.out)
      clear E8
      have F9 := Lib.hid (F8.out.ext Z9.out)
      clear F8
      have J9 := Lib.hid (J8.out.ext Z9.out)
      clear J8
      have Op_9 := Lib.hid (Op_8.out.ext Z9.out)
      clear Op_8
      have S9 : Hid (LawSt w w9 g _) := ⟨S8.out.rd.ext Z9.out, S8.out.tch.trans (Touched.of_ext Z9.out)⟩
      clear S8 Z9
      obtain ⟨k10, hk10⟩ : ∃ k, n1 + n2 + 1 = k := ⟨_, rfl⟩
      have hb10 : k10 ≤ 11 := by omega
      have HK10 := Lib.hid hk10
      have JN : Hid (∀ w', Ext w9 w' → ∀ a b ca cb q, HasN w' a n1 ca → HasN w' b n2 cb → Calls Tryz.prog 113 #[.slice a n1 ca, .slice b n2 cb, .int .i64 q] w' (RetN w' k10)) := fun w' _ a b ca cb q i j => by rw [← HK10.out]; exact joinN_c a b ca cb _ _ q w' i j (by omega) (by omega)
      clear hk10
      go_wp2_with fail
      refine (JN.out _ (by (repeat (first | exact Ext.refl _ | assumption | refine Ext.alloc ?_ _ | refine Ext.drewN ?_ _ | refine Ext.drew ?_))) _ _ _ _ _ (E9.out.has.ext (by (repeat (first | exact Ext.refl _ | assumption | refine Ext.alloc ?_ _ | refine Ext.drewN ?_ _ | refine Ext.drew ?_)))) (F9.out.has.ext (by (repeat (first | exact Ext.refl _ | assumption | refine Ext.alloc ?_ _ | refine Ext.drewN ?_ _ | refine Ext.drew ?_))))).mono ?_
      rintro e w10 ⟨a10, c10, rfl, o10, x10⟩
      have Z10 := Lib.hid (Ext.trans (show Ext w9 _ by (repeat (first | exact Ext.refl _ | assumption | refine Ext.alloc ?_ _ | refine Ext.drewN ?_ _ | refine Ext.drew ?_))) x10)
      have Or_10 := Lib.hid (o10.mono (B' := w9.heap.size) (by (try simp); try omega))
      clear o10 x10 JN
      have T10 := Lib.hid (T9.out.ext Z10.out)
      clear T9
      have E10 := Lib.hid (E9.out.ext Z10.out)
      clear E9
      have F10 := Lib.hid (F9.out.ext Z10.out)
      clear F9
      have J10 := Lib.hid (J9.out.ext Z10.out)
      clear J9
      have Op_10 := Lib.hid (Op_9.out.ext Z10.out)
      clear Op_9
      have Oq_10 := Lib.hid (Oq_9.out.ext Z10.out)
      clear Oq_9
      have S10 : Hid (LawSt w w10 g _) := ⟨S9.out.rd.ext Z10.out, S9.out.tch.trans (Touched.of_ext Z10.out)⟩
      clear S9 Z10
      obtain ⟨k11, hk11⟩ : ∃ k, n1 + n3 + 1 = k := ⟨_, rfl⟩
      have hb11 : k11 ≤ 11 := by omega
      have HK11 := Lib.hid hk11
      have JN : Hid (∀ w', Ext w10 w' → ∀ a b ca cb q, HasN w' a n1 ca → HasN w' b n3 cb → Calls Tryz.prog 113 #[.slice a n1 ca, .slice b n3 cb, .int .i64 q] w' (RetN w' k11)) := fun w' _ a b ca cb q i j => by rw [← HK11.out]; exact joinN_c a b ca cb _ _ q w' i j (by omega) (by omega)
      clear hk11
      go_wp2_with fail
      refine (JN.out _ (by (repeat (first | exact Ext.refl _ | assumption | refine Ext.alloc ?_ _ | refine Ext.drewN ?_ _ | refine Ext.drew ?_))) _ _ _ _ _ (E10.out.has.ext (by (repeat (first | exact Ext.refl _ | assumption | refine Ext.alloc ?_ _ | refine Ext.drewN ?_ _ | refine Ext.drew ?_)))) (J10.out.has.ext (by (repeat (first | exact Ext.refl _ | assumption | refine Ext.alloc ?_ _ | refine Ext.drewN ?_ _ | refine Ext.drew ?_))))).mono ?_
      rintro e w11 ⟨a11, c11, rfl, o11, x11⟩
      have Z11 := Lib.hid (Ext.trans (show Ext w10 _ by (repeat (first | exact Ext.refl _ | assumption | refine Ext.alloc ?_ _ | refine Ext.drewN ?_ _ | refine Ext.drew ?_))) x11)
      have Os_11 := Lib.hid (o11.mono (B' := w10.heap.size) (by (try simp); try omega))
      clear o11 x11 JN
      have T11 := Lib.hid (T10.out.ext Z11.out)
      clear T10
      have E11 := Lib.hid (E10.out.ext Z11.out)
      clear E10
      have F11 := Lib.hid (F10.out.ext Z11.out)
      clear F10
      have J11 := Lib.hid (J10.out.ext Z11.out)
      clear J10
      have Op_11 := Lib.hid (Op_10.out.ext Z11.out)
      clear Op_10
      have Oq_11 := Lib.hid (Oq_10.out.ext Z11.out)
      clear Oq_10
      have Or_11 := Lib.hid (Or_10.out.ext Z11.out)
      clear Or_10
      have S11 : Hid (LawSt w w11 g _) := ⟨S10.out.rd.ext Z11.out, S10.out.tch.trans (Touched.of_ext Z11.out)⟩
      clear S10 Z11
      obtain ⟨k12, hk12⟩ : ∃ k, k10 + k11 + 1 = k := ⟨_, rfl⟩
      have hb12 : k12 ≤ 23 := by omega
      have HK12 := Lib.hid hk12
      have JN : Hid (∀ w', Ext w11 w' → ∀ a b ca cb q, HasN w' a k10 ca → HasN w' b k11 cb → Calls Tryz.prog 113 #[.slice a k10 ca, .slice b k11 cb, .int .i64 q] w' (RetN w' k12)) := fun w' _ a b ca cb q i j => by rw [← HK12.out]; exact joinN_c a b ca cb _ _ q w' i j (by omega) (by omega)
      clear hk12
      go_wp2_with fail
      refine (JN.out _ (by (repeat (first | exact Ext.refl _ | assumption | refine Ext.alloc ?_ _ | refine Ext.drewN ?_ _ | refine Ext.drew ?_))) _ _ _ _ _ (Or_11.out.has.ext (by (repeat (first | exact Ext.refl _ | assumption | refine Ext.alloc ?_ _ | refine Ext.drewN ?_ _ | refine Ext.drew ?_)))) (Os_11.out.has.ext (by (repeat (first | exact Ext.refl _ | assumption | refine Ext.alloc ?_ _ | refine Ext.drewN ?_ _ | refine Ext.drew ?_))))).mono ?_
      rintro e w12 ⟨a12, c12, rfl, o12, x12⟩
      have Z12 := Lib.hid (Ext.trans (show Ext w11 _ by (repeat (first | exact Ext.refl _ | assumption | refine Ext.alloc ?_ _ | refine Ext.drewN ?_ _ | refine Ext.drew ?_))) x12)
      have Ot_12 := Lib.hid (o12.mono (B' := w11.heap.size) (by (try simp); try omega))
      clear o12 x12 JN
      have T12 := Lib.hid (T11.out.ext Z12.out)
      clear T11
      have E12 := Lib.hid (E11.out.ext Z12.out)
      clear E11
      have F12 := Lib.hid (F11.out.ext Z12.out)
      clear F11
      have J12 := Lib.hid (J11.out.ext Z12.out)
      clear J11
      have Op_12 := Lib.hid (Op_11.out.ext Z12.out)
      clear Op_11
      have Oq_12 := Lib.hid (Oq_11.out.ext Z12.out)
      clear Oq_11
      have Or_12 := Lib.hid (Or_11.out.ext Z12.out)
      clear Or_11
      have Os_12 := Lib.hid (Os_11.out.ext Z12.out)
      clear Os_11
      have S12 : Hid (LawSt w w12 g _) := ⟨S11.out.rd.ext Z12.out, S11.out.tch.trans (Touched.of_ext Z12.out)⟩
      clear S11 Z12
      go_wp2
      go_ret2
      exact S12.out.fin (by (repeat (first | exact Ext.refl _ | assumption | refine Ext.alloc ?_ _ | refine Ext.drewN ?_ _ | refine Ext.drew ?_))) (Oq_12.out.has.ext (by (repeat (first | exact Ext.refl _ | assumption | refine Ext.alloc ?_ _ | refine Ext.drewN ?_ _ | refine Ext.drew ?_)))) (Ot_12.out.has.ext (by (repeat (first | exact Ext.refl _ | assumption | refine Ext.alloc ?_ _ | refine Ext.drewN ?_ _ | refine Ext.drew ?_)))) (by omega) (by omega) (by omega)
    · obtain ⟨k8, hk8⟩ : ∃ k, n1 + n1 + 1 = k := ⟨_, rfl⟩
      have hb8 : k8 ≤ 19 := by omega
      have HK8 := Lib.hid hk8
      have JN : Hid (∀ w', Ext w7 w' → ∀ a b ca cb q, HasN w' a n1 ca → HasN w' b n1 cb → Calls Tryz.prog 113 #[.slice a n1 ca, .slice b n1 cb, .int .i64 q] w' (RetN w' k8)) := fun w' _ a b ca cb q i j => by rw [← HK8.out]; exact joinN_c a b ca cb _ _ q w' i j (by omega) (by omega)
      clear hk8
      go_wp2_with fail
      refine (JN.out _ (by (repeat (first | exact Ext.refl _ | assumption | refine Ext.alloc ?_ _ | refine Ext.drewN ?_ _ | refine Ext.drew ?_))) _ _ _ _ _ (E7.out.has.ext (by (repeat (first | exact Ext.refl _ | assumption | refine Ext.alloc ?_ _ | refine Ext.drewN ?_ _ | refine Ext.drew ?_)))) (E7.out.has.ext (by (repeat (first | exact Ext.refl _ | assumption | refine Ext.alloc ?_ _ | refine Ext.drewN ?_ _ | refine Ext.drew ?_))))).mono ?_
      rintro e w8 ⟨a8, c8, rfl, o8, x8⟩
      have Z8 := Lib.hid (Ext.trans (show Ext w7 _ by (repeat (first | exact Ext.refl _ | assumption | refine Ext.alloc ?_ _ | refine Ext.drewN ?_ _ | refine Ext.drew ?_))) x8)
      have Op_8 := Lib.hid (o8.mono (B' := w7.heap.size) (by (try simp); try omega))
      clear o8 x8 JN
      have T8 := Lib.hid (T7.out.ext Z8.out)
      clear T7
      have E8 := Lib.hid (E7.out.ext Z8.out)
      clear E7
      have F8 := Lib.hid (F7.out.ext Z8.out)
      clear F7
      have J8 := Lib.hid (J7.out.ext Z8.out)
      clear J7
      have S8 : Hid (LawSt w w8 g _) := ⟨S7.out.rd.ext Z8.out, S7.out.tch.trans (Touched.of_ext Z8.out)⟩
      clear S7 Z8
      go_wp2
      go_ret2
      exact S8.out.fin (by (repeat (first | exact Ext.refl _ | assumption | refine Ext.alloc ?_ _ | refine Ext.drewN ?_ _ | refine Ext.drew ?_))) (E8.out.has.ext (by (repeat (first | exact Ext.refl _ | assumption | refine Ext.alloc ?_ _ | refine Ext.drewN ?_ _ | refine Ext.drew ?_)))) (Op_8.out.has.ext (by (repeat (first | exact Ext.refl _ | assumption | refine Ext.alloc ?_ _ | refine Ext.drewN ?_ _ | refine Ext.drew ?_)))) (by omega) (by omega) (by omega)
    · go_wp2_with (at_builtin; refine any_append_bothT (by rfl) _ _ rfl w w7 g S7.out.tch (by (repeat (first | exact Ext.refl _ | assumption | refine Ext.alloc ?_ _ | refine Ext.drewN ?_ _ | refine Ext.drew ?_))) hg _ _ _ rfl (T7.out.ext (by (repeat (first | exact Ext.refl _ | assumption | refine Ext.alloc ?_ _ | refine Ext.drewN ?_ _ | refine Ext.drew ?_)))) _ _ _ rfl (by first | exact lit1N _ _ | exact (lit1N _ _).ext (by (repeat (first | exact Ext.refl _ | assumption | refine Ext.alloc ?_ _ | refine Ext.drewN ?_ _ | refine Ext.drew ?_)))) (n1 + 1 + 1) rfl (by omega) (by omega) (by decide) ?_)
      intro a8 c8 w8 o8 h8 r8 t8
      have O8 := Lib.hid o8
      have H8 := Lib.hid h8
      have S8 : Hid (LawSt w w8 g (m + 600 + 11 + 11 + 1)) := ⟨r8 _ S7.out.rd, t8⟩
      clear o8 h8 r8 t8
      go_wp2
      go_ret2
      exact S8.out.fin (by (repeat (first | exact Ext.refl _ | assumption | refine Ext.alloc ?_ _ | refine Ext.drewN ?_ _ | refine Ext.drew ?_))) (O8.out.has.ext (by (repeat (first | exact Ext.refl _ | assumption | refine Ext.alloc ?_ _ | refine Ext.drewN ?_ _ | refine Ext.drew ?_)))) (H8.out.ext (by (repeat (first | exact Ext.refl _ | assumption | refine Ext.alloc ?_ _ | refine Ext.drewN ?_ _ | refine Ext.drew ?_)))) (by omega) (by omega) (by omega)
    · go_wp2_with fail
      refine (l20Test0_c g _ _ (S7.out.rd.ext (by (repeat (first | exact Ext.refl _ | assumption | refine Ext.alloc ?_ _ | refine Ext.drewN ?_ _ | refine Ext.drew ?_)))) (by omega)).mono ?_
      rintro e w8 ⟨t, rfl, ht15, hr8, ht8⟩
      have I8 := Lib.hid (OwnI.drawn (OwnI.ext I7.out (by (repeat (first | exact Ext.refl _ | assumption | refine Ext.alloc ?_ _ | refine Ext.drewN ?_ _ | refine Ext.drew ?_)))) ht8 hg)
      have S8 : Hid (LawSt w w8 g (m + 600 + 11 + 11 + 1 + 10)) := ⟨hr8, S7.out.tch.trans (Touched.trans (Touched.of_ext (by (repeat (first | exact Ext.refl _ | assumption | refine Ext.alloc ?_ _ | refine Ext.drewN ?_ _ | refine Ext.drew ?_)))) ht8)⟩
      have HW := kvB_while HKv.out (by rw [← HN1.out]; exact h9) ht15
      have CW : Hid (∀ w', Ext w8 w' → Calls Tryz.prog 114 #[.int .i64 t, .slice a1 n1 c1] w' (RetV w' true ([t] ++ L1 ++ [19] ++ [21] ++ [15 - t] ++ [19]))) := fun w' x => by
        have := sKatWhile_c t a1 c1 L1 w' (I8.out.ints.ext x) (by rw [← HN1.out]; omega)
        rw [HW, ← HN1.out] at this; exact this
      obtain ⟨LL, hLL⟩ : ∃ LL, LL = [t] ++ L1 ++ [19] ++ [21] ++ [15 - t] ++ [19] := ⟨_, rfl⟩
      rw [← hLL] at CW
      have hlen : LL.length = n1 + 1 + 1 + 1 + 1 + 1 := by rw [hLL, HN1.out]; simp
      clear hLL HW hr8 ht8 S7 I7 ht15
      obtain ⟨nn, hnn⟩ : ∃ nn, nn = LL.length := ⟨_, rfl⟩
      have HNN := Lib.hid hnn
      have hnb : 2 ≤ nn ∧ nn ≤ 20 := by omega
      have hw2 : IntKind.i64.wrap ((nn : Int) - 2) = ((nn - 2 : Nat) : Int) := by rw [IntWalk.i64_in _ (by omega)]; omega
      have hlt2 : nn - 2 < nn := by omega
      clear hlen
      go_wp2_with fail
      refine (CW.out _ (by (repeat (first | exact Ext.refl _ | assumption | refine Ext.alloc ?_ _ | refine Ext.drewN ?_ _ | refine Ext.drew ?_)))).mono ?_
      rintro e w9 ⟨v9, rfl, o9, x9⟩
      replace o9 : OwnI w9 _ 3 v9 LL := o9
      obtain ⟨b9, c9, rfl, -, hb9, hc9, -⟩ := o9.row (by omega)
      have hfit := ownI_fit o9
      rw [← hnn] at o9 hc9 hfit ⊢
      clear hnn
      have d9 := hc9 (nn - 2) hlt2
      have O9 : Hid (HasN w9 (some ⟨b9, 0, none⟩) nn c9) := ⟨hfit, LL, HNN.out.symm, o9.intsE⟩
      have S9 : Hid (LawSt w w9 g (m + 600 + 11 + 11 + 1 + 10)) := ⟨S8.out.rd.ext (Ext.trans (by (repeat (first | exact Ext.refl _ | assumption | refine Ext.alloc ?_ _ | refine Ext.drewN ?_ _ | refine Ext.drew ?_))) x9), S8.out.tch.trans (Touched.of_ext (Ext.trans (by (repeat (first | exact Ext.refl _ | assumption | refine Ext.alloc ?_ _ | refine Ext.drewN ?_ _ | refine Ext.drew ?_))) x9))⟩
      have JN : Hid (∀ w', ∀ a b ca cb q, HasN w' a nn ca → HasN w' b 1 cb → Calls Tryz.prog 113 #[.slice a nn ca, .slice b 1 cb, .int .i64 q] w' (RetN w' (nn + 1 + 1))) := fun w' a b ca cb q i j => joinN_c a b ca cb _ _ q w' i j (by omega) (by omega)
      generalize nth LL (nn - 2) = u at *
      clear hc9 o9 x9 CW S8 I8
      go_wp2_with fail
      refine (JN.out _ _ _ _ _ _ (O9.out.ext (by (repeat (first | exact Ext.refl _ | assumption | refine Ext.alloc ?_ _ | refine Ext.drewN ?_ _ | refine Ext.drew ?_)))) (by first | exact lit1N _ _ | exact (lit1N _ _).ext (by (repeat (first | exact Ext.refl _ | assumption | refine Ext.alloc ?_ _ | refine Ext.drewN ?_ _ | refine Ext.drew ?_))))).mono ?_
      rintro e w10 ⟨a10, c10, rfl, o10, x10⟩
      have O10 := Lib.hid o10
      have X10 := Lib.hid (Ext.trans (show Ext w9 _ by (repeat (first | exact Ext.refl _ | assumption | refine Ext.alloc ?_ _ | refine Ext.drewN ?_ _ | refine Ext.drew ?_))) x10)
      clear o10 x10 JN
      go_wp2
      go_ret2
      exact S9.out.fin (X10.out.trans (by (repeat (first | exact Ext.refl _ | assumption | refine Ext.alloc ?_ _ | refine Ext.drewN ?_ _ | refine Ext.drew ?_)))) (O9.out.ext (X10.out.trans (by (repeat (first | exact Ext.refl _ | assumption | refine Ext.alloc ?_ _ | refine Ext.drewN ?_ _ | refine Ext.drew ?_))))) (O10.out.has.ext (by (repeat (first | exact Ext.refl _ | assumption | refine Ext.alloc ?_ _ | refine Ext.drewN ?_ _ | refine Ext.drew ?_)))) (by omega) (by omega) (by omega)
    · obtain ⟨k8, hk8⟩ : ∃ k, n1 + n2 + 1 = k := ⟨_, rfl⟩
      have hb8 : k8 ≤ 11 := by omega
      have HK8 := Lib.hid hk8
      have JN : Hid (∀ w', Ext w7 w' → ∀ a b ca cb q, HasN w' a n1 ca → HasN w' b n2 cb → Calls Tryz.prog 113 #[.slice a n1 ca, .slice b n2 cb, .int .i64 q] w' (RetN w' k8)) := fun w' _ a b ca cb q i j => by rw [← HK8.out]; exact joinN_c a b ca cb _ _ q w' i j (by omega) (by omega)
      clear hk8
      go_wp2_with fail
      refine (JN.out _ (by (repeat (first | exact Ext.refl _ | assumption | refine Ext.alloc ?_ _ | refine Ext.drewN ?_ _ | refine Ext.drew ?_))) _ _ _ _ _ (E7.out.has.ext (by (repeat (first | exact Ext.refl _ | assumption | refine Ext.alloc ?_ _ | refine Ext.drewN ?_ _ | refine Ext.drew ?_)))) (F7.out.has.ext (by (repeat (first | exact Ext.refl _ | assumption | refine Ext.alloc ?_ _ | refine Ext.drewN ?_ _ | refine Ext.drew ?_))))).mono ?_
      rintro e w8 ⟨a8, c8, rfl, o8, x8⟩
      have Z8 := Lib.hid (Ext.trans (show Ext w7 _ by (repeat (first | exact Ext.refl _ | assumption | refine Ext.alloc ?_ _ | refine Ext.drewN ?_ _ | refine Ext.drew ?_))) x8)
      have Op_8 := Lib.hid (o8.mono (B' := w7.heap.size) (by (try simp); try omega))
      clear o8 x8 JN
      have T8 := Lib.hid (T7.out.ext Z8.out)
      clear T7
      have E8 := Lib.hid (E7.out.ext Z8.out)
      clear E7
      have F8 := Lib.hid (F7.out.ext Z8.out)
      clear F7
      have J8 := Lib.hid (J7.out.ext Z8.out)
      clear J7
      have S8 : Hid (LawSt w w8 g _) := ⟨S7.out.rd.ext Z8.out, S7.out.tch.trans (Touched.of_ext Z8.out)⟩
      clear S7 Z8
      obtain ⟨k9, hk9⟩ : ∃ k, n2 + n1 + 1 = k := ⟨_, rfl⟩
      have hb9 : k9 ≤ 11 := by omega
      have HK9 := Lib.hid hk9
      have JN : Hid (∀ w', Ext w8 w' → ∀ a b ca cb q, HasN w' a n2 ca → HasN w' b n1 cb → Calls Tryz.prog 113 #[.slice a n2 ca, .slice b n1 cb, .int .i64 q] w' (RetN w' k9)) := fun w' _ a b ca cb q i j => by rw [← HK9.out]; exact joinN_c a b ca cb _ _ q w' i j (by omega) (by omega)
      clear hk9
      go_wp2_with fail
      refine (JN.out _ (by (repeat (first | exact Ext.refl _ | assumption | refine Ext.alloc ?_ _ | refine Ext.drewN ?_ _ | refine Ext.drew ?_))) _ _ _ _ _ (F8.out.has.ext (by (repeat (first | exact Ext.refl _ | assumption | refine Ext.alloc ?_ _ | refine Ext.drewN ?_ _ | refine Ext.drew ?_)))) (E8.out.has.ext (by (repeat (first | exact Ext.refl _ | assumption | refine Ext.alloc ?_ _ | refine Ext.drewN ?_ _ | refine Ext.drew ?_))))).mono ?_
      rintro e w9 ⟨a9, c9, rfl, o9, x9⟩
      have Z9 := Lib.hid (Ext.trans (show Ext w8 _ by (repeat (first | exact Ext.refl _ | assumption | refine Ext.alloc ?_ _ | refine Ext.drewN ?_ _ | refine Ext.drew ?_))) x9)
      have Oq_9 := Lib.hid (o9.mono (B' := w8.heap.size) (by (try simp); try omega))
      clear o9 x9 JN
      have T9 := Lib.hid (T8.out.ext Z9.out)
      clear T8
      have E9 := Lib.hid (E8.out.ext Z9.out)
      clear E8
      have F9 := Lib.hid (F8.out.ext Z9.out)
      clear F8
      have J9 := Lib.hid (J8.out.ext Z9.out)
      clear J8
      have Op_9 := Lib.hid (Op_8.out.ext Z9.out)
      clear Op_8
      have S9 : Hid (LawSt w w9 g _) := ⟨S8.out.rd.ext Z9.out, S8.out.tch.trans (Touched.of_ext Z9.out)⟩
      clear S8 Z9
      go_wp2
      go_ret2
      exact S9.out.fin (by (repeat (first | exact Ext.refl _ | assumption | refine Ext.alloc ?_ _ | refine Ext.drewN ?_ _ | refine Ext.drew ?_))) (Op_9.out.has.ext (by (repeat (first | exact Ext.refl _ | assumption | refine Ext.alloc ?_ _ | refine Ext.drewN ?_ _ | refine Ext.drew ?_)))) (Oq_9.out.has.ext (by (repeat (first | exact Ext.refl _ | assumption | refine Ext.alloc ?_ _ | refine Ext.drewN ?_ _ | refine Ext.drew ?_)))) (by omega) (by omega) (by omega)
    · go_wp2_with fail
      refine (l20Small_c g _ 14 _ (S7.out.rd.ext (by (repeat (first | exact Ext.refl _ | assumption | refine Ext.alloc ?_ _ | refine Ext.drewN ?_ _ | refine Ext.drew ?_)))) (by omega)).mono ?_
      rintro e w8 ⟨v8, L8, rfl, o8, hl8, hr8, ht8⟩
      have E8 := Lib.hid (HasN.drawn (E7.out.ext (by (repeat (first | exact Ext.refl _ | assumption | refine Ext.alloc ?_ _ | refine Ext.drewN ?_ _ | refine Ext.drew ?_)))) ht8 hg)
      obtain ⟨a8, c8, rfl, -⟩ := o8.shape
      have O8 : Hid (HasN w8 a8 L8.length c8) := ⟨ownI_fit o8, L8, rfl, o8.intsE⟩
      have S8 : Hid (LawSt w w8 g (m + 600 + 11 + 11 + 1 + 600)) := ⟨hr8, S7.out.tch.trans (Touched.trans (Touched.of_ext (by (repeat (first | exact Ext.refl _ | assumption | refine Ext.alloc ?_ _ | refine Ext.drewN ?_ _ | refine Ext.drew ?_)))) ht8)⟩
      clear o8 hr8 ht8 S7 E7
      go_wp2
      go_ret2
      exact S8.out.fin (by (repeat (first | exact Ext.refl _ | assumption | refine Ext.alloc ?_ _ | refine Ext.drewN ?_ _ | refine Ext.drew ?_))) (E8.out.has.ext (by (repeat (first | exact Ext.refl _ | assumption | refine Ext.alloc ?_ _ | refine Ext.drewN ?_ _ | refine Ext.drew ?_)))) (O8.out.ext (by (repeat (first | exact Ext.refl _ | assumption | refine Ext.alloc ?_ _ | refine Ext.drewN ?_ _ | refine Ext.drew ?_)))) (by omega) (by omega) (by omega)
  · cases hkv : kvB L1
    · have HKv := Lib.hid hkv
      clear hkv hk
      go_wp2_with fail
      refine (sKatValid_c a1 c1 L1 _ (H3.out.own.ints.ext (by (repeat (first | exact Ext.refl _ | assumption | refine Ext.alloc ?_ _ | refine Ext.drewN ?_ _ | refine Ext.drew ?_)))) (by omega)).mono ?_
      rw [HKv.out]
      rintro e w4 ⟨rfl, rfl⟩
      go_wp2
      go_ret2
      exact S3.out.fin (by (repeat (first | exact Ext.refl _ | assumption | refine Ext.alloc ?_ _ | refine Ext.drewN ?_ _ | refine Ext.drew ?_))) (E3.out.has.ext (by (repeat (first | exact Ext.refl _ | assumption | refine Ext.alloc ?_ _ | refine Ext.drewN ?_ _ | refine Ext.drew ?_)))) (F3.out.has.ext (by (repeat (first | exact Ext.refl _ | assumption | refine Ext.alloc ?_ _ | refine Ext.drewN ?_ _ | refine Ext.drew ?_)))) (by omega) (by omega) (by omega)
    · have h9 : ¬ L1.length ≤ 9 := fun h => hk ⟨hkv, h⟩
      have HKv := Lib.hid hkv
      clear hkv hk
      go_wp2_with fail
      refine (sKatValid_c a1 c1 L1 _ (H3.out.own.ints.ext (by (repeat (first | exact Ext.refl _ | assumption | refine Ext.alloc ?_ _ | refine Ext.drewN ?_ _ | refine Ext.drew ?_)))) (by omega)).mono ?_
      rw [HKv.out]
      rintro e w4 ⟨rfl, rfl⟩
      go_wp2
      go_ret2
      exact S3.out.fin (by (repeat (first | exact Ext.refl _ | assumption | refine Ext.alloc ?_ _ | refine Ext.drewN ?_ _ | refine Ext.drew ?_))) (E3.out.has.ext (by (repeat (first | exact Ext.refl _ | assumption | refine Ext.alloc ?_ _ | refine Ext.drewN ?_ _ | refine Ext.drew ?_)))) (F3.out.has.ext (by (repeat (first | exact Ext.refl _ | assumption | refine Ext.alloc ?_ _ | refine Ext.drewN ?_ _ | refine Ext.drew ?_)))) (by omega) (by omega) (by omega)
end Go.Proofs.YtlaamecfknkmlaaGreat
namespace Go.Proofs.YtlaamecfknkmlaaGreat
set_option linter.unusedVariables false
open Go.RowKit Go.Kt
/-- Two expressions drawn from bytes. -/
def DrewPr (w : World) (e : Ending) (w' : World) : Prop :=
  ∃ (a1 a2 : Option Addr) (n1 c1 n2 c2 : Nat), e = .returned (.tuple #[.slice a1 n1 c1, .slice a2 n2 c2]) ∧ HasN w' a1 n1 c1 ∧ HasN w' a2 n2 c2 ∧ n1 ≤ 60 ∧ n2 ≤ 60 ∧ Ext w w'
theorem drawDiffer_c (a : Option Addr) (cap : Nat) (l : List Int) (w : World) (h : BytesAt w a l) (hlen : l.length ≤ 1048576) (hcap : l.length ≤ cap) :
    Calls Tryz.prog 37 #[.slice a l.length cap] w (DrewPr w) := by
  go_enter Tryz.func37, Tryz.ntmps37
  go_wp2_with fail
  refine (l20Open_c a cap l _ (h.ext (by (repeat (first | exact Ext.refl _ | assumption | refine Ext.alloc ?_ _ | refine Ext.drewN ?_ _ | refine Ext.drew ?_)))) hlen hcap).mono ?_
  rintro e w1 ⟨g, rfl, hg, hr0, hx0⟩
  have hz0 := hx0.size
  go_wp2_with fail
  refine (l20Laws_c g 0 _ (hr0.ext (by (repeat (first | exact Ext.refl _ | assumption | refine Ext.alloc ?_ _ | refine Ext.drewN ?_ _ | refine Ext.drew ?_)))) (by omega)).mono ?_
  rintro e w2 ⟨a1, a2, n1, c1, n2, c2, rfl, k1, k2, h1, h2, hr2, ht2⟩
  have hz2 := ht2.size
  go_wp2
  go_ret2
  exact ⟨a1, a2, n1, c1, n2, c2, rfl, k1.ext (by (repeat (first | exact Ext.refl _ | assumption | refine Ext.alloc ?_ _ | refine Ext.drewN ?_ _ | refine Ext.drew ?_))), k2.ext (by (repeat (first | exact Ext.refl _ | assumption | refine Ext.alloc ?_ _ | refine Ext.drewN ?_ _ | refine Ext.drew ?_))), h1, h2, ht2.ext (Ext.trans hx0 (by (repeat (first | exact Ext.refl _ | assumption | refine Ext.alloc ?_ _ | refine Ext.drewN ?_ _ | refine Ext.drew ?_)))) (by omega)⟩
theorem drawEqual_c (a : Option Addr) (cap : Nat) (l : List Int) (w : World) (h : BytesAt w a l) (hlen : l.length ≤ 1048576) (hcap : l.length ≤ cap) :
    Calls Tryz.prog 40 #[.slice a l.length cap] w (DrewPr w) := by
  go_enter Tryz.func40, Tryz.ntmps40
  go_wp2_with fail
  refine (l20Open_c a cap l _ (h.ext (by (repeat (first | exact Ext.refl _ | assumption | refine Ext.alloc ?_ _ | refine Ext.drewN ?_ _ | refine Ext.drew ?_)))) hlen hcap).mono ?_
  rintro e w1 ⟨g, rfl, hg, hr0, hx0⟩
  have hz0 := hx0.size
  go_wp2_with fail
  refine (l20Laws_c g 0 _ (hr0.ext (by (repeat (first | exact Ext.refl _ | assumption | refine Ext.alloc ?_ _ | refine Ext.drewN ?_ _ | refine Ext.drew ?_)))) (by omega)).mono ?_
  rintro e w2 ⟨a1, a2, n1, c1, n2, c2, rfl, k1, k2, h1, h2, hr2, ht2⟩
  have hz2 := ht2.size
  go_wp2
  go_ret2
  exact ⟨a1, a2, n1, c1, n2, c2, rfl, k1.ext (by (repeat (first | exact Ext.refl _ | assumption | refine Ext.alloc ?_ _ | refine Ext.drewN ?_ _ | refine Ext.drew ?_))), k2.ext (by (repeat (first | exact Ext.refl _ | assumption | refine Ext.alloc ?_ _ | refine Ext.drewN ?_ _ | refine Ext.drew ?_))), h1, h2, ht2.ext (Ext.trans hx0 (by (repeat (first | exact Ext.refl _ | assumption | refine Ext.alloc ?_ _ | refine Ext.drewN ?_ _ | refine Ext.drew ?_)))) (by omega)⟩
end Go.Proofs.YtlaamecfknkmlaaGreat
