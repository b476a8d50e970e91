/- Merged texts: contracts and plain lemmas (Dp, Ne). -/
import Derived.Test.YtlaamecfknkmlaaGreatGt2
import Derived.Test.YtlaamecfknkmlaaGreatGt7
namespace Go.Kt
set_option linter.unusedVariables false
theorem addW_nd {N M : List (List Int)} {so : List (Nat × Nat) × List Way} {w : Way} (h : so.1.Nodup) : ∀ m, (addW N M so w m).1.Nodup
  | 0 => h
  | m + 1 => by
    unfold addW
    split
    · exact addW_nd h m
    · rename_i hn
      show ((addW N M so w m).1 ++ [nxP N M w.1 m]).Nodup
      rw [List.nodup_append]
      exact ⟨addW_nd h m, by simp, fun a ha b hb => by simp at hb; subst hb; rintro rfl; exact hn ha⟩
theorem lvW_nd {N M : List (List Int)} {S : List (Nat × Nat)} {lv : List Way} (h : S.Nodup) : ∀ k, (lvW N M S lv k).1.Nodup
  | 0 => h
  | k + 1 => addW_nd (lvW_nd h k) 12
theorem stW_nd (N M : List (List Int)) : ∀ a, (stW N M a).1.Nodup
  | 0 => by simp [stW]
  | a + 1 => lvW_nd (stW_nd N M a) _
/-- What is seen ahead of a level. -/
def sAt (N M : List (List Int)) : Nat → List (Nat × Nat)
  | 0 => []
  | a + 1 => (stW N M a).1
theorem stW_sAt (N M : List (List Int)) : ∀ a, (stW N M a).1 = sAt N M a ++ (stW N M a).2.map Prod.fst
  | 0 => rfl
  | a + 1 => lvW_seen _
theorem stW_len {E F : List Int} {N M : List (List Int)} (hN : Auto E N) (hM : Auto F M) (a : Nat) : (stW N M a).1.length ≤ 1048576 ∧ (stW N M a).2.length ≤ 1048576 := by
  have h := stW_bd hN hM a
  have h1 := bdP_len (stW_nd N M a) h.1
  exact ⟨h1, Nat.le_trans h.2.1 h1⟩
theorem inW_len {E F : List Int} {N M : List (List Int)} (hN : Auto E N) (hM : Auto F M) (a k m : Nat) (hm : m ≤ 12) (w : Way) : (addW N M (lvW N M (stW N M a).1 (stW N M a).2 k) w m).2.length ≤ 1048576 := by
  have h0 := stW_bd hN hM a
  have h1 := lvW_bd hN hM (lv := (stW N M a).2) h0.1 k
  have h2 := addW_bd hN hM h1.1 (w := w) m hm
  have h3 := bdP_len (addW_nd (N := N) (M := M) (w := w) (lvW_nd (N := N) (M := M) (lv := (stW N M a).2) (stW_nd N M a) k) m) h2
  exact Nat.le_trans (addW_le h1.2.1 m) h3
theorem wayP_lt {E F : List Int} {N M : List (List Int)} (hN : Auto E N) (hM : Auto F M) (a k : Nat) (hk : k < (stW N M a).2.length) : (atW (stW N M a).2 k).1.1 < 4294967296 ∧ (atW (stW N M a).2 k).1.2 < 4294967296 := by
  have h := stW_bd hN hM a
  have := h.1 _ (h.2.2 _ (atW_mem hk))
  omega
theorem inW_mem {N M : List (List Int)} (a k m : Nat) (w : Way) (p : Nat × Nat) : p ∈ (addW N M (lvW N M (stW N M a).1 (stW N M a).2 k) w m).1 ↔ p ∈ (stW N M a).1 ∨ p ∈ (addW N M (lvW N M (stW N M a).1 (stW N M a).2 k) w m).2.map Prod.fst := by
  rw [addW_seen (lvW_seen k) m, List.mem_append]
theorem best_none {E F : List Int} {N M : List (List Int)} {a : Nat} (h : bsL E F (stW N M a).2 (stW N M a).2.length = []) : candL E F (stW N M a).2 = [] := by
  rw [bsL_level] at h
  cases hc : candL E F (stW N M a).2 with
  | nil => rfl
  | cons t r =>
    rw [hc] at h
    have h : t = [] := h
    obtain ⟨w, -, b, -, -, e⟩ := mem_candL.1 (show t ∈ candL E F (stW N M a).2 by rw [hc]; simp)
    rw [h] at e; simp at e
theorem best_some {E F : List Int} {N M : List (List Int)} {a : Nat} (h : bsL E F (stW N M a).2 (stW N M a).2.length ≠ []) : ∃ r, candL E F (stW N M a).2 = bsL E F (stW N M a).2 (stW N M a).2.length :: r := by
  rw [bsL_level] at h ⊢
  cases hc : candL E F (stW N M a).2 with
  | nil => rw [hc] at h; exact absurd rfl h
  | cons t r => exact ⟨r, rfl⟩
theorem prsF_zero {e f : List Int} : (prsF e f).length = 0 ↔ difB e f = false := by
  unfold prsF difB
  cases h : (auB e && auB f)
  · simp
  · rw [Bool.true_and, if_pos rfl, List.length_map]
    unfold prL
    cases hp : prB (auN e) (auN f)
    · simp
    · rw [if_pos rfl]
      have := clP_mono (auN e) (auN f) 0 101
      have h0 : (clP (auN e) (auN f) 0).length = 1 := rfl
      rw [Nat.zero_add, h0] at this
      constructor
      · intro e; omega
      · intro e; cases e
theorem rowI_mapW {L : List Way} {f : Way → List Int} {k : Nat} (h : k < L.length) : rowI (L.map f) k = f (atW L k) := by
  rw [rowI_getElem _ _ (by simpa using h), List.getElem_map, atW_getElem _ _ h]
theorem bsA_len {E F : List Int} {w : Way} {best : List Int} {n : Nat} (hb : best.length ≤ n) (hw : w.2.length + 1 ≤ n) : ∀ j, (bsA E F w best j).length ≤ n
  | 0 => hb
  | j + 1 => by
    unfold bsA
    split
    · rw [List.length_append]; exact hw
    · exact bsA_len hb hw j
theorem bsL_len {E F : List Int} {lv : List Way} {n : Nat} (h : ∀ v, v ∈ lv → v.2.length + 1 ≤ n) : ∀ k, k ≤ lv.length → (bsL E F lv k).length ≤ n
  | 0, _ => Nat.zero_le _
  | k + 1, hk => bsA_len (bsL_len h k (by omega)) (h _ (atW_mem (by omega))) 4
end Go.Kt
namespace Go.Kt
set_option linter.unusedVariables false
open Go.Proofs.YtlaamecfknkmlaaGreat
def flatW : List Way → List Value → List Value
  | w :: L, t :: ts => .int .i64 (w.1.1 : Nat) :: .int .i64 (w.1.2 : Nat) :: t :: flatW L ts
  | _, _ => []
theorem flatW_get : ∀ (L : List Way) (ts : List Value) (i : Nat), ts.length = L.length → i < L.length → (flatW L ts)[i * 3]? = some (.int .i64 ((atW L i).1.1 : Nat)) ∧ (flatW L ts)[i * 3 + 1]? = some (.int .i64 ((atW L i).1.2 : Nat)) ∧ (flatW L ts)[i * 3 + 2]? = ts[i]?
  | [], ts, i, _, h => by simp at h
  | w :: L, [], i, h, _ => by simp at h
  | w :: L, t :: ts, 0, _, _ => by simp [flatW, atW]
  | w :: L, t :: ts, i + 1, h, hi => by
    have := flatW_get L ts i (by simpa using h) (by simpa using hi)
    have e2 : atW (w :: L) (i + 1) = atW L i := by simp [atW]
    rw [show (i + 1) * 3 = i * 3 + 3 by omega, e2]
    exact this
theorem flatW_app : ∀ (L : List Way) (ts : List Value) (w : Way) (t : Value), ts.length = L.length → flatW (L ++ [w]) (ts ++ [t]) = flatW L ts ++ [.int .i64 (w.1.1 : Nat), .int .i64 (w.1.2 : Nat), t]
  | [], [], w, t, _ => rfl
  | x :: L, y :: ts, w, t, h => by
    have := flatW_app L ts w t (by simpa using h)
    simp only [List.cons_append, flatW, this]
  | [], t :: ts, _, _, h => by simp at h
  | w :: L, [], _, _, h => by simp at h
/-- The traces' values read as the traces. -/
def TrsV (w : World) (E : Ek) (ts : List Value) (L : List Way) : Prop :=
  ts.length = L.length ∧ ∀ i, i < L.length → ∃ a c, ts[i]? = some (.slice a (atW L i).2.length c) ∧ (atW L i).2.length ≤ c ∧ IntsE w E a (atW L i).2 ∧ ((atW L i).2.length = 0 → a = none ∧ c = 0)
theorem TrsV.ext {w w' : World} {E : Ek} {ts : List Value} {L : List Way} (h : TrsV w E ts L) (e : Ext w w') : TrsV w' E ts L :=
  ⟨h.1, fun i hi => let ⟨a, c, h1, h2, h3, h4⟩ := h.2 i hi; ⟨a, c, h1, h2, h3.ext e, h4⟩⟩
theorem TrsV.kept {w w' : World} {E : Ek} {ER : Nat} {ts : List Value} {L : List Way} {row : Option Nat} (h : TrsV w E ts L) (hg : w.grownBy w' row) (hr : ∀ k, row = some k → ∃ cs fz, w.heap[k]? = some (.cells cs ER fz)) (hE : E.t ≠ ER) : TrsV w' E ts L :=
  ⟨h.1, fun i hi => let ⟨a, c, h1, h2, h3, h4⟩ := h.2 i hi; ⟨a, c, h1, h2, h3.kept hg hr hE, h4⟩⟩
/-- A map is written. -/
theorem IntsE.keptM {w w' : World} {E : Ek} {a : Option Addr} {l : List Int} {b : Nat} {S : List (Nat × Nat)} (h : IntsE w E a l) (hg : w.grownBy w' (some b)) (hs : SetP w b S) : IntsE w' E a l :=
  h.off hg fun b' o hl ha e => by
    obtain ⟨⟨cs, fz, hc⟩, -⟩ := h.2 b' o hl ha
    obtain rfl := Option.some.inj e
    rw [hs.1] at hc
    cases hc
theorem TrsV.keptM {w w' : World} {E : Ek} {ts : List Value} {L : List Way} {b : Nat} {S : List (Nat × Nat)} (h : TrsV w E ts L) (hg : w.grownBy w' (some b)) (hs : SetP w b S) : TrsV w' E ts L :=
  ⟨h.1, fun i hi => let ⟨a, c, h1, h2, h3, h4⟩ := h.2 i hi; ⟨a, c, h1, h2, h3.keptM hg hs, h4⟩⟩
theorem atW_left {L M : List Way} {i : Nat} (h : i < L.length) : atW (L ++ M) i = atW L i := by
  unfold atW; rw [List.getD_eq_getElem?_getD, List.getD_eq_getElem?_getD, List.getElem?_append_left h]
theorem atW_last (L : List Way) (w : Way) : atW (L ++ [w]) L.length = w := by
  unfold atW; rw [List.getD_eq_getElem?_getD, List.getElem?_append_right (Nat.le_refl _)]; simp
theorem TrsV.snoc {w : World} {E : Ek} {ts : List Value} {L : List Way} {x : Way} {a : Option Addr} {c : Nat} (h : TrsV w E ts L) (hc : x.2.length ≤ c) (hi : IntsE w E a x.2) (hz : x.2.length = 0 → a = none ∧ c = 0) : TrsV w E (ts ++ [.slice a x.2.length c]) (L ++ [x]) := by
  refine ⟨by rw [List.length_append, List.length_append, h.1]; rfl, fun i hi' => ?_⟩
  rw [List.length_append] at hi'
  by_cases hlt : i < L.length
  · rw [atW_left hlt, List.getElem?_append_left (by rw [h.1]; exact hlt)]
    exact h.2 i hlt
  · obtain rfl : i = L.length := by simp at hi'; omega
    rw [atW_last, List.getElem?_append_right (by rw [h.1]; exact Nat.le_refl _), h.1, Nat.sub_self]
    exact ⟨a, c, rfl, hc, hi, hz⟩
/-- A slice of ways of the call's own. -/
def OwnW (w : World) (B : Nat) (E : Ek) (ER : Nat) (v : Value) (L : List Way) : Prop := ∃ ts, w.ownsRow B ER 3 v L.length (flatW L ts) ∧ TrsV w E ts L
theorem OwnW.ext {w w' : World} {B : Nat} {E : Ek} {ER : Nat} {v : Value} {L : List Way} (h : OwnW w B E ER v L) (e : Ext w w') : OwnW w' B E ER v L := by
  obtain ⟨ts, h1, h2⟩ := h
  exact ⟨ts, own_ext h1 e, h2.ext e⟩
theorem OwnW.mono {w : World} {B B' : Nat} {E : Ek} {ER : Nat} {v : Value} {L : List Way} (h : OwnW w B E ER v L) (hB : B' ≤ B) : OwnW w B' E ER v L := by
  obtain ⟨ts, h1, h2⟩ := h
  exact ⟨ts, own_mono h1 hB, h2⟩
theorem OwnW.nil (w : World) (B : Nat) (E : Ek) (ER : Nat) : OwnW w B E ER (.slice none 0 0) [] := ⟨[], ⟨rfl, .inl ⟨rfl, rfl⟩⟩, rfl, fun i hi => by simp at hi⟩
theorem OwnW.lt {w : World} {B : Nat} {E : Ek} {ER : Nat} {v : Value} {L : List Way} (h : OwnW w B E ER v L) : ∀ k, v.ownBlock = some k → B ≤ k ∧ k < w.heap.size := fun k hk => by
  obtain ⟨ts, h1, _⟩ := h
  exact World.ownsRow.lt h1 k hk
theorem OwnW.typed {w : World} {B : Nat} {E : Ek} {ER : Nat} {v : Value} {L : List Way} (h : OwnW w B E ER v L) : ∀ k, v.ownBlock = some k → ∃ cs fz, w.heap[k]? = some (.cells cs ER fz) := fun k hk => by
  obtain ⟨ts, h1, _⟩ := h
  rcases h1.2 with ⟨rfl, _⟩ | ⟨g, cap, cur, rfl, _, hg, _⟩
  · cases hk
  · obtain rfl : g = k := Option.some.inj hk
    exact ⟨cur, (0, 0), hg⟩
theorem OwnW.shape {w : World} {B : Nat} {E : Ek} {ER : Nat} {v : Value} {L : List Way} (h : OwnW w B E ER v L) : ∃ a c, v = .slice a L.length c := by
  obtain ⟨ts, h1, _⟩ := h
  rcases h1.2 with ⟨rfl, h0⟩ | ⟨g, cap, cur, rfl, _⟩
  · exact ⟨none, 0, by rw [h0]⟩
  · exact ⟨_, cap, rfl⟩
/-- Another slice of ways is written. -/
theorem OwnW.kept {w w' : World} {B : Nat} {E : Ek} {ER : Nat} {v : Value} {L : List Way} {row : Option Nat} (h : OwnW w B E ER v L) (hg : w.grownBy w' row) (hr : ∀ k, row = some k → ∃ cs fz, w.heap[k]? = some (.cells cs ER fz)) (hE : E.t ≠ ER) (hne : v.ownBlock = none ∨ v.ownBlock ≠ row) : OwnW w' B E ER v L := by
  obtain ⟨ts, h1, h2⟩ := h
  exact ⟨ts, World.ownsRow.kept h1 hg hne, h2.kept hg hr hE⟩
theorem OwnW.ne {w : World} {B b : Nat} {E : Ek} {ER : Nat} {v : Value} {L : List Way} {S : List (Nat × Nat)} (h : OwnW w B E ER v L) (hs : SetP w b S) : v.ownBlock ≠ some b := fun e => by
  obtain ⟨cs, fz, h1⟩ := h.typed b e
  rw [hs.1] at h1
  cases h1
/-- A map is written. -/
theorem OwnW.keptM {w w' : World} {B b : Nat} {E : Ek} {ER : Nat} {v : Value} {L : List Way} {S : List (Nat × Nat)} (h : OwnW w B E ER v L) (hg : w.grownBy w' (some b)) (hs : SetP w b S) : OwnW w' B E ER v L := by
  have hne := h.ne hs
  obtain ⟨ts, h1, h2⟩ := h
  exact ⟨ts, World.ownsRow.kept h1 hg (.inr hne), h2.keptM hg hs⟩
theorem OwnW.row {w : World} {B : Nat} {E : Ek} {ER n cap : Nat} {a : Option Addr} {L : List Way} (h : OwnW w B E ER (.slice a n cap) L) (hn : 0 < L.length) :
    ∃ g, a = some ⟨g, 0, none⟩ ∧ n = L.length ∧ B ≤ g ∧ g < w.heap.size ∧ ∀ i, i < L.length → w.cell? ⟨g, i * 3, none⟩ = some (.int .i64 ((atW L i).1.1 : Nat)) ∧ w.cell? ⟨g, i * 3 + 1, none⟩ = some (.int .i64 ((atW L i).1.2 : Nat)) ∧
      ∃ ai ci, w.cell? ⟨g, i * 3 + 2, none⟩ = some (.slice ai (atW L i).2.length ci) ∧ (atW L i).2.length ≤ ci ∧ IntsE w E ai (atW L i).2 ∧ ((atW L i).2.length = 0 → ai = none ∧ ci = 0) := by
  obtain ⟨ts, h, h2⟩ := h
  have h' := h
  rcases h'.2 with ⟨_, h0⟩ | ⟨g, cap', cur, hv, hB, hg, _⟩
  · omega
  · have hv' : a = some ⟨g, 0, none⟩ ∧ n = L.length ∧ cap = cap' := by simpa using hv
    obtain ⟨rfl, rfl, rfl⟩ := hv'
    refine ⟨g, rfl, rfl, hB, (Array.getElem?_eq_some_iff.1 hg).1, fun i hi => ?_⟩
    obtain ⟨g0, g1, g2⟩ := flatW_get L ts i h2.1 hi
    obtain ⟨ai, ci, k1, k2, k3, k4⟩ := h2.2 i hi
    refine ⟨?_, ?_, ai, ci, ?_, k2, k3, k4⟩
    · rw [World.ownsRow.cellAt h (i * 3) (by omega)]; exact g0
    · rw [World.ownsRow.cellAt h (i * 3 + 1) (by omega)]; exact g1
    · rw [World.ownsRow.cellAt h (i * 3 + 2) (by omega), g2]; exact k1
/-- A slice of one way, in a new block. -/
theorem OwnW.lit (w : World) (B : Nat) (E : Ek) (ER : Nat) (x : Way) (hB : B ≤ w.heap.size) (h : x.2 = []) : OwnW (w.alloc (.cells #[.int .i64 (x.1.1 : Nat), .int .i64 (x.1.2 : Nat), .slice none 0 0] ER)) B E ER (.slice (some ⟨w.heap.size, 0, none⟩) 1 1) [x] := by
  refine ⟨[.slice none 0 0], World.ownsRow_lit (base := B) (e := ER) (size := 3) w #[.int .i64 (x.1.1 : Nat), .int .i64 (x.1.2 : Nat), .slice none 0 0] 1 hB (by unfold maxLen; omega) rfl, rfl, fun i hi => ?_⟩
  obtain rfl : i = 0 := by simp at hi; omega
  refine ⟨none, 0, ?_, ?_, ?_, fun _ => ⟨rfl, rfl⟩⟩
  · simp [atW, h]
  · simp [atW, h]
  · have : (atW [x] 0).2 = [] := by simp [atW, h]
    rw [this]; exact IntsE.nil _ _ _
end Go.Kt
