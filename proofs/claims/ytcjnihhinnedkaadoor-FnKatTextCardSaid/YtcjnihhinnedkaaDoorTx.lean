/- Contracts: texts of trees, in the program. -/
import Derived.Test.YtcjnihhinnedkaaDoorTt
import Derived.Test.YtcjnihhinnedkaaDoorTr
namespace Go.Kt
/-- In round brackets, or not. -/
def brk (b : Bool) (s : ByteArray) : ByteArray := if b then ⟨#[40]⟩ ++ s ++ ⟨#[41]⟩ else s
def letterS (x : Int) : ByteArray := ⟨#[UInt8.ofNat (97 + (x - 16)).toNat]⟩
/-- The text of a tree. -/
def Kt.txt : Kt → ByteArray
  | .leaf x => if x ≤ 15 then testS x.toNat else letterS x
  | .star a => brk (a.top == 19 || a.top == 20) a.txt ++ ⟨#[42]⟩
  | .two s a b => if s = 19 then brk (a.top == 20) a.txt ++ ⟨#[59]⟩ ++ brk (b.top == 20 || b.top == 19) b.txt else a.txt ++ ⟨#[43]⟩ ++ brk (b.top == 20) b.txt
theorem brk_size (b : Bool) (s : ByteArray) : (brk b s).size ≤ s.size + 2 := by
  cases b
  · exact Nat.le_add_right _ _
  · show (⟨#[40]⟩ ++ s ++ ⟨#[41]⟩ : ByteArray).size ≤ _
    rw [ByteArray.size_append, ByteArray.size_append]
    show 1 + s.size + 1 ≤ _
    omega
theorem sz1 (x : UInt8) : (⟨#[x]⟩ : ByteArray).size = 1 := rfl
theorem Kt.txt_size : ∀ t : Kt, t.txt.size + 2 ≤ 10 * t.words.length
  | .leaf x => by
    have h := testS_size x.toNat
    have h1 : (Kt.leaf x).words.length = 1 := rfl
    rw [h1]
    unfold Kt.txt
    split
    · omega
    · unfold letterS; rw [sz1]; omega
  | .star a => by
    have h := a.txt_size
    have h1 : (Kt.star a).words.length = a.words.length + 1 := by simp [Kt.words]
    have h2 := brk_size (a.top == 19 || a.top == 20) a.txt
    rw [h1]
    unfold Kt.txt
    rw [ByteArray.size_append, sz1]
    omega
  | .two s a b => by
    have h := a.txt_size
    have h0 := b.txt_size
    have h1 : (Kt.two s a b).words.length = a.words.length + b.words.length + 1 := by simp [Kt.words]; omega
    have h2 := brk_size (a.top == 20) a.txt
    have h3 := brk_size (b.top == 20 || b.top == 19) b.txt
    have h4 := brk_size (b.top == 20) b.txt
    rw [h1]
    unfold Kt.txt
    split
    · rw [ByteArray.size_append, ByteArray.size_append, sz1]; omega
    · rw [ByteArray.size_append, ByteArray.size_append, sz1]; omega
theorem contains_one (x y : Int) : [x].contains y = (y == x) := by rw [Bool.eq_iff_iff]; simp
theorem contains_two (x z y : Int) : [x, z].contains y = (y == x || y == z) := by rw [Bool.eq_iff_iff]; simp
end Go.Kt
namespace Go.Proofs.YtcjnihhinnedkaaDoor
set_option linter.unusedVariables false
open Go.RowKit Go.Kt

/-- A number that is none below 0 exactly if x is in l. -/
def RetX (w : World) (l : List Int) (x : Int) (e : Ending) (w' : World) : Prop := ∃ r : Int, e = .returned (.int .i64 r) ∧ Hid (decide (0 ≤ r) = l.contains x) ∧ w = w'
theorem index_c (a : Option Addr) (cap : Nat) (l : List Int) (x : Int) (w : World) (hl : IntsAt w a l) (hlen : l.length ≤ 4194304) :
    Calls Tryd.prog 52 #[.slice a l.length cap, .int .i64 x] w (RetX w l x) := by
  obtain ⟨b, off, h1, h2⟩ := hl
  have H1 := Lib.hid h1
  have H2 := Lib.hid h2
  clear h1 h2
  go_enter Tryd.func52, Tryd.ntmps52
  go_wp2
  go_loop [8] (fun i => Hid (∃ k : Nat, k ≤ l.length ∧ i = .int .i64 k ∧ (∀ j, j < k → nth l j ≠ x))) (fun i => l.length - (intOf i).toNat)
  case atStart => exact Lib.hid ⟨0, Nat.zero_le _, rfl, fun j hj => absurd hj (Nat.not_lt_zero _)⟩
  case round =>
    obtain ⟨k, hk, rfl, hno⟩ := hrel.out
    clear hrel
    have HN := Lib.hid hno
    clear hno
    by_cases hlt : k < l.length
    · obtain ⟨rfl, hb⟩ := H1.out (by omega)
      have hc := H2.out k hlt
      have hmem := nth_mem l k hlt
      by_cases hp : x = nth l k
      · have HP : Hid (l.contains x = true) := by unfold Hid; rw [hp]; exact List.contains_iff_mem.2 hmem
        have hpe : (x == nth l k) = true := by simpa using hp
        clear hp hmem
        go_wp2
        go_ret
        exact ⟨(k : Int), rfl, Lib.hid (by rw [HP.out]; simp), rfl⟩
      · have hpe : (x == nth l k) = false := by simpa using hp
        have HP := Lib.hid hp
        clear hp hmem
        go_wp2
        go_round
        case rel => exact Lib.hid ⟨k + 1, by omega, by go_num, fun j hj => by rcases Nat.lt_or_eq_of_le (Nat.le_of_lt_succ hj) with h | rfl; exact HN.out j h; exact fun h => HP.out h.symm⟩
        case measure => simp [intOf]; omega
    · obtain rfl : k = l.length := by omega
      have HP : Hid (l.contains x = false) := by
        unfold Hid
        cases hc : l.contains x with
        | false => rfl
        | true =>
          obtain ⟨j, hj, he⟩ := List.mem_iff_getElem.1 (List.contains_iff_mem.1 hc)
          exact absurd ((nth_getElem l j hj).trans he) (HN.out j hj)
      go_wp2
      go_ret
      exact ⟨-1, rfl, Lib.hid (by rw [HP.out]; rfl), rfl⟩
theorem contains_c (a : Option Addr) (cap : Nat) (l : List Int) (x : Int) (w : World) (hl : IntsAt w a l) (hlen : l.length ≤ 4194304) :
    Calls Tryd.prog 48 #[.slice a l.length cap, .int .i64 x] w fun e w' => e = .returned (.bool (l.contains x)) ∧ w = w' := by
  have HL := Lib.hid hl
  clear hl
  go_enter Tryd.func48, Tryd.ntmps48
  go_wp2_with fail
  refine (index_c _ _ l x _ HL.out hlen).mono ?_
  rintro e w1 ⟨r, rfl, hr, rfl⟩
  go_wp2
  go_ret
  exact ⟨by rw [← hr.out]; rfl, rfl⟩
theorem top_cell {w : World} {X : Nat → Prop} {t : Kt} {g : Nat} (h : TreeAt w X t g) : w.cell? ⟨g, 0, none⟩ = some (.int .i64 t.top) := by
  cases t with
  | leaf s => exact h.2.1
  | star a => exact h.2.1
  | two s a b => exact h.2.1
theorem wrap_c (t : Kt) (g : Nat) (a : Option Addr) (cap : Nat) (l : List Int) (w : World) (ht : w.cell? ⟨g, 0, none⟩ = some (.int .i64 t.top)) (hl : IntsAt w a l) (hlen : l.length ≤ 4194304) (hsz : t.txt.size ≤ 400)
    (hc : Hid (∀ w', Ext w w' → Calls Tryd.prog 22 #[.pointer (some ⟨g, 0, none⟩)] w' (RetS w' t.txt))) :
    Calls Tryd.prog 35 #[.pointer (some ⟨g, 0, none⟩), .slice a l.length cap] w (RetS w (brk (l.contains t.top) t.txt)) := by
  have HL := Lib.hid hl
  have zg := lt_of_cell ht
  have CC : Hid (∀ w', Ext w w' → Calls Tryd.prog 48 #[.slice a l.length cap, .int .i64 t.top] w' fun e w'' => e = .returned (.bool (l.contains t.top)) ∧ w' = w'') := fun w' hx => contains_c a cap l t.top w' (HL.out.ext hx) hlen
  have hadd : ∀ W : World, (Op.stringOp .add ⟨#[40]⟩ t.txt).run Tryd.prog W = .ok (.string (⟨#[40]⟩ ++ t.txt)) W := fun W => run_string_add_sum (P := Tryd.prog) W _ _ (by rw [sz1]; omega)
  have hadd2 : ∀ W : World, (Op.stringOp .add (⟨#[40]⟩ ++ t.txt) ⟨#[41]⟩).run Tryd.prog W = .ok (.string (⟨#[40]⟩ ++ t.txt ++ ⟨#[41]⟩)) W := fun W => run_string_add_sum (P := Tryd.prog) W _ _ (by rw [ByteArray.size_append, sz1, sz1]; omega)
  clear hl
  cases hb : l.contains t.top
  all_goals
    rw [hb] at CC
    clear hb
    generalize t.txt = s at *
    generalize t.top = y at *
    go_enter Tryd.func35, Tryd.ntmps35
    go_wp2_with (first
      | (go_at_call 48; refine (CC.out _ (by (repeat (first | exact Ext.refl _ | assumption | refine Ext.alloc ?_ _ | refine Ext.drewN ?_ _ | refine Ext.drew ?_)))).mono ?_; rintro e w1 ⟨rfl, rfl⟩)
      | (go_at_call 22; refine (hc.out _ (by (repeat (first | exact Ext.refl _ | assumption | refine Ext.alloc ?_ _ | refine Ext.drewN ?_ _ | refine Ext.drew ?_)))).mono ?_; rintro e w2 ⟨rfl, hx2⟩))
    go_ret
    exact ⟨rfl, hx2⟩
end Go.Proofs.YtcjnihhinnedkaaDoor
