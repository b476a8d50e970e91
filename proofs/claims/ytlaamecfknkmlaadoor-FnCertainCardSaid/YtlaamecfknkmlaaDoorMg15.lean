/- Merged texts: contracts and plain lemmas (Rk). -/
import Derived.Test.YtlaamecfknkmlaaDoorMg14
/- Plain law: the reader of expressions, and that it reads what KatText writes. No program in sight. -/
namespace Go.Kt
set_option linter.unusedVariables false

/-- A reader: what it reads from a text, and what it leaves; none if it finds a wrong byte. -/
abbrev Rdr := List UInt8 → Option (List Int × List UInt8)
/-- The test that has a text. -/
def rTest (w : List UInt8) : Option Nat := (List.range 16).find? fun t => (testS t).data.toList == w
/-- How long the next word is. -/
def wordN : List UInt8 → Nat
  | [] => 0
  | c :: r => if c = 33 then min 2 (r.length + 1) else if c = 91 then (match (c :: r).idxOf? 93 with | none => 0 | some k => k + 1) else 1
def rWord (w : List UInt8) : Option Int :=
  match w with
  | [c] => if 97 ≤ c ∧ c ≤ 99 then some (16 + ((c.toNat : Int) - 97)) else (rTest [c]).map Int.ofNat
  | w => (rTest w).map Int.ofNat
def rSingle (sub : Rdr) : Rdr
  | [] => none
  | c :: r => if c = 40 then (match sub r with
      | some (l, d :: r') => if d = 41 then some (l, r') else none
      | _ => none)
    else (rWord ((c :: r).take (wordN (c :: r)))).map fun x => ([x], (c :: r).drop (wordN (c :: r)))
def stars (l : List Int) : Rdr
  | [] => some (l, [])
  | c :: r => if c = 42 then stars (l ++ [21]) r else some (l, c :: r)
def rStar (sub : Rdr) : Rdr := fun x => match rSingle sub x with
  | none => none
  | some (l, r) => stars l r
def more (sub : Rdr) (sign : UInt8) (op : Int) : Nat → List Int → Rdr
  | 0, _, _ => none
  | f + 1, l, x => match x with
    | [] => some (l, [])
    | c :: r => if c = sign then (match sub r with | none => none | some (m, r') => more sub sign op f (l ++ m ++ [op]) r') else some (l, c :: r)
def rProd (sub : Rdr) : Rdr := fun x => match rStar sub x with
  | none => none
  | some (l, r) => more (rStar sub) 59 19 (r.length + 1) l r
def rSum0 (sub : Rdr) : Rdr := fun x => match rProd sub x with
  | none => none
  | some (l, r) => more (rProd sub) 43 20 (r.length + 1) l r
def rSum : Nat → Rdr
  | 0 => fun _ => none
  | d + 1 => rSum0 (rSum d)
/-- A reader leaves a text that is no longer. -/
def Less (sub : Rdr) : Prop := ∀ x l r, sub x = some (l, r) → r.length ≤ x.length
theorem stars_less : ∀ (x : List UInt8) (l : List Int) {m : List Int} {r : List UInt8}, stars l x = some (m, r) → r.length ≤ x.length
  | [], l, m, r, h => by
    simp only [stars, Option.some.injEq, Prod.mk.injEq] at h
    rw [← h.2]; exact Nat.le_refl _
  | c :: x, l, m, r, h => by
    unfold stars at h
    split at h
    · have := stars_less x _ h
      simp only [List.length_cons]; omega
    · simp only [Option.some.injEq, Prod.mk.injEq] at h
      rw [← h.2]; exact Nat.le_refl _
theorem single_less {sub : Rdr} (hs : Less sub) : Less (rSingle sub) := by
  intro x l r h
  cases x with
  | nil => cases h
  | cons c x =>
    simp only [rSingle] at h
    split at h
    · cases hx : sub x with
      | none => rw [hx] at h; cases h
      | some p =>
        obtain ⟨m, y⟩ := p
        rw [hx] at h
        have h1 := hs _ _ _ hx
        cases y with
        | nil => cases h
        | cons d y =>
          simp only at h
          split at h
          · simp only [Option.some.injEq, Prod.mk.injEq] at h
            rw [← h.2]
            simp only [List.length_cons] at h1 ⊢
            omega
          · cases h
    · cases hw : rWord ((c :: x).take (wordN (c :: x))) with
      | none => rw [hw] at h; cases h
      | some y =>
        rw [hw] at h
        simp only [Option.map_some, Option.some.injEq, Prod.mk.injEq] at h
        rw [← h.2, List.length_drop]
        omega
theorem star_less {sub : Rdr} (hs : Less sub) : Less (rStar sub) := by
  intro x l r h
  simp only [rStar] at h
  cases hx : rSingle sub x with
  | none => rw [hx] at h; cases h
  | some p =>
    obtain ⟨m, y⟩ := p
    rw [hx] at h
    have h1 := single_less hs _ _ _ hx
    have h2 := stars_less _ _ h
    omega
theorem more_less {sub : Rdr} (hs : Less sub) (sign : UInt8) (op : Int) : ∀ (f : Nat) (l : List Int), Less (more sub sign op f l)
  | 0, l, x, m, r, h => by cases h
  | f + 1, l, x, m, r, h => by
    cases x with
    | nil =>
      simp only [more, Option.some.injEq, Prod.mk.injEq] at h
      rw [← h.2]; exact Nat.le_refl _
    | cons c x =>
      simp only [more] at h
      split at h
      · cases hx : sub x with
        | none => rw [hx] at h; cases h
        | some p =>
          obtain ⟨m', y⟩ := p
          rw [hx] at h
          have h1 := hs _ _ _ hx
          have h2 := more_less hs sign op f _ _ _ _ h
          simp only [List.length_cons]
          omega
      · simp only [Option.some.injEq, Prod.mk.injEq] at h
        rw [← h.2]; exact Nat.le_refl _
/-- More fuel than bytes is enough. -/
theorem more_fuel {sub : Rdr} (hs : Less sub) (sign : UInt8) (op : Int) : ∀ (f f' : Nat) (l : List Int) (x : List UInt8), x.length < f → x.length < f' → more sub sign op f l x = more sub sign op f' l x
  | 0, _, _, _, h, _ => by omega
  | _ + 1, 0, _, _, _, h => by omega
  | f + 1, f' + 1, l, x, h, h' => by
    cases x with
    | nil => rfl
    | cons c x =>
      simp only [more]
      split
      · cases hx : sub x with
        | none => rfl
        | some p =>
          obtain ⟨m, y⟩ := p
          have h1 := hs _ _ _ hx
          simp only [List.length_cons] at h h'
          exact more_fuel hs sign op f f' _ y (by omega) (by omega)
      · rfl
theorem more_end {sub : Rdr} (sign : UInt8) (op : Int) (f : Nat) (l : List Int) (x : List UInt8) (h : x.head? ≠ some sign) : more sub sign op (f + 1) l x = some (l, x) := by
  cases x with
  | nil => rfl
  | cons c x =>
    simp only [more]
    rw [if_neg (fun e => h (by rw [e]; rfl))]
theorem more_sign {sub : Rdr} (sign : UInt8) (op : Int) (f : Nat) (l : List Int) {x r : List UInt8} {m : List Int} (h : sub x = some (m, r)) : more sub sign op (f + 1) l (sign :: x) = more sub sign op f (l ++ m ++ [op]) r := by simp [more, h]
theorem stars_end (l : List Int) (x : List UInt8) (h : x.head? ≠ some 42) : stars l x = some (l, x) := by
  cases x with
  | nil => rfl
  | cons c x =>
    simp only [stars]
    rw [if_neg (fun e => h (by rw [e]; rfl))]
theorem prod_less {sub : Rdr} (hs : Less sub) : Less (rProd sub) := by
  intro x l r h
  simp only [rProd] at h
  cases hx : rStar sub x with
  | none => rw [hx] at h; cases h
  | some p =>
    obtain ⟨m, y⟩ := p
    rw [hx] at h
    have h1 := star_less hs _ _ _ hx
    have h2 := more_less (star_less hs) 59 19 _ _ _ _ _ h
    omega
theorem sum_less : ∀ d, Less (rSum d)
  | 0 => fun x l r h => by cases h
  | d + 1 => by
    intro x l r h
    simp only [rSum, rSum0] at h
    have hs := sum_less d
    cases hx : rProd (rSum d) x with
    | none => rw [hx] at h; cases h
    | some p =>
      obtain ⟨m, y⟩ := p
      rw [hx] at h
      have h1 := prod_less hs _ _ _ hx
      have h2 := more_less (prod_less hs) 43 20 _ _ _ _ _ h
      omega
/-! ### What is written is read -/
/-- The bytes of a text. -/
def bs (s : ByteArray) : List UInt8 := s.data.toList
theorem bs_app (a b : ByteArray) : bs (a ++ b) = bs a ++ bs b := by simp [bs]
theorem bs_brk_yes (s : ByteArray) : bs (brk true s) = 40 :: (bs s ++ [41]) := by
  show bs (⟨#[40]⟩ ++ s ++ ⟨#[41]⟩) = _
  rw [bs_app, bs_app]; rfl
theorem bs_test0 : bs (testS 0) = [48] := by decide +kernel
theorem rt_0 : rTest [48] = some 0 := by decide +kernel
theorem bs_test1 : bs (testS 1) = [91, 48, 93] := by decide +kernel
theorem rt_1 : rTest [91, 48, 93] = some 1 := by decide +kernel
theorem bs_test2 : bs (testS 2) = [91, 49, 93] := by decide +kernel
theorem rt_2 : rTest [91, 49, 93] = some 2 := by decide +kernel
theorem bs_test3 : bs (testS 3) = [33, 113] := by decide +kernel
theorem rt_3 : rTest [33, 113] = some 3 := by decide +kernel
theorem bs_test4 : bs (testS 4) = [91, 50, 93] := by decide +kernel
theorem rt_4 : rTest [91, 50, 93] = some 4 := by decide +kernel
theorem bs_test5 : bs (testS 5) = [33, 112] := by decide +kernel
theorem rt_5 : rTest [33, 112] = some 5 := by decide +kernel
theorem bs_test6 : bs (testS 6) = [91, 49, 50, 93] := by decide +kernel
theorem rt_6 : rTest [91, 49, 50, 93] = some 6 := by decide +kernel
theorem bs_test7 : bs (testS 7) = [91, 48, 49, 50, 93] := by decide +kernel
theorem rt_7 : rTest [91, 48, 49, 50, 93] = some 7 := by decide +kernel
theorem bs_test8 : bs (testS 8) = [91, 51, 93] := by decide +kernel
theorem rt_8 : rTest [91, 51, 93] = some 8 := by decide +kernel
theorem bs_test9 : bs (testS 9) = [91, 48, 51, 93] := by decide +kernel
theorem rt_9 : rTest [91, 48, 51, 93] = some 9 := by decide +kernel
theorem bs_test10 : bs (testS 10) = [112] := by decide +kernel
theorem rt_10 : rTest [112] = some 10 := by decide +kernel
theorem bs_test11 : bs (testS 11) = [91, 48, 49, 51, 93] := by decide +kernel
theorem rt_11 : rTest [91, 48, 49, 51, 93] = some 11 := by decide +kernel
theorem bs_test12 : bs (testS 12) = [113] := by decide +kernel
theorem rt_12 : rTest [113] = some 12 := by decide +kernel
theorem bs_test13 : bs (testS 13) = [91, 48, 50, 51, 93] := by decide +kernel
theorem rt_13 : rTest [91, 48, 50, 51, 93] = some 13 := by decide +kernel
theorem bs_test14 : bs (testS 14) = [91, 49, 50, 51, 93] := by decide +kernel
theorem rt_14 : rTest [91, 49, 50, 51, 93] = some 14 := by decide +kernel
theorem bs_test15 : bs (testS 15) = [49] := by decide +kernel
theorem rt_15 : rTest [49] = some 15 := by decide +kernel
theorem test_read (sub : Rdr) (t : Nat) (ht : t < 16) (rest : List UInt8) : rSingle sub (bs (testS t) ++ rest) = some ([(t : Int)], rest) := by
  rcases (show t = 0 ∨ t = 1 ∨ t = 2 ∨ t = 3 ∨ t = 4 ∨ t = 5 ∨ t = 6 ∨ t = 7 ∨ t = 8 ∨ t = 9 ∨ t = 10 ∨ t = 11 ∨ t = 12 ∨ t = 13 ∨ t = 14 ∨ t = 15 by omega) with rfl | rfl | rfl | rfl | rfl | rfl | rfl | rfl | rfl | rfl | rfl | rfl | rfl | rfl | rfl | rfl
  · rw [bs_test0]; simp [rSingle, wordN, rWord, rt_0]
  · rw [bs_test1]; simp [rSingle, wordN, rWord, rt_1, List.idxOf?, List.findIdx?_cons]
  · rw [bs_test2]; simp [rSingle, wordN, rWord, rt_2, List.idxOf?, List.findIdx?_cons]
  · rw [bs_test3]; simp [rSingle, wordN, rWord, rt_3]
  · rw [bs_test4]; simp [rSingle, wordN, rWord, rt_4, List.idxOf?, List.findIdx?_cons]
  · rw [bs_test5]; simp [rSingle, wordN, rWord, rt_5]
  · rw [bs_test6]; simp [rSingle, wordN, rWord, rt_6, List.idxOf?, List.findIdx?_cons]
  · rw [bs_test7]; simp [rSingle, wordN, rWord, rt_7, List.idxOf?, List.findIdx?_cons]
  · rw [bs_test8]; simp [rSingle, wordN, rWord, rt_8, List.idxOf?, List.findIdx?_cons]
  · rw [bs_test9]; simp [rSingle, wordN, rWord, rt_9, List.idxOf?, List.findIdx?_cons]
  · rw [bs_test10]; simp [rSingle, wordN, rWord, rt_10]
  · rw [bs_test11]; simp [rSingle, wordN, rWord, rt_11, List.idxOf?, List.findIdx?_cons]
  · rw [bs_test12]; simp [rSingle, wordN, rWord, rt_12]
  · rw [bs_test13]; simp [rSingle, wordN, rWord, rt_13, List.idxOf?, List.findIdx?_cons]
  · rw [bs_test14]; simp [rSingle, wordN, rWord, rt_14, List.idxOf?, List.findIdx?_cons]
  · rw [bs_test15]; simp [rSingle, wordN, rWord, rt_15]
theorem letter_read (sub : Rdr) (x : Int) (h : 16 ≤ x ∧ x ≤ 18) (rest : List UInt8) : rSingle sub (bs (letterS x) ++ rest) = some ([x], rest) := by
  rcases (show x = 16 ∨ x = 17 ∨ x = 18 by omega) with rfl | rfl | rfl
  · show rSingle sub ([97] ++ rest) = _
    simp [rSingle, wordN, rWord]
  · show rSingle sub ([98] ++ rest) = _
    simp [rSingle, wordN, rWord]
  · show rSingle sub ([99] ++ rest) = _
    simp [rSingle, wordN, rWord]
theorem leaf_read (sub : Rdr) (x : Int) (h : 0 ≤ x ∧ x ≤ 18) (rest : List UInt8) : rSingle sub (bs (Kt.leaf x).txt ++ rest) = some ([x], rest) := by
  unfold Kt.txt
  split
  · obtain ⟨X, rfl⟩ := Int.eq_ofNat_of_zero_le h.1
    exact test_read sub X (by omega) rest
  · exact letter_read sub x (by omega) rest
theorem br_top20 {t : Kt} (h : t.top = 20) : t.br 2 = true := by rw [Kt.br_2, h]; rfl
theorem single_brk {sub : Rdr} {t : Kt} {rest : List UInt8} (h : sub (bs t.txt ++ 41 :: rest) = some (t.words, 41 :: rest)) : rSingle sub (bs (brk true t.txt) ++ rest) = some (t.words, rest) := by
  rw [bs_brk_yes]
  have e : (40 :: (bs t.txt ++ [41])) ++ rest = 40 :: (bs t.txt ++ 41 :: rest) := by simp
  rw [e]
  simp [rSingle, h]
theorem stars_star (l : List Int) (r : List UInt8) : stars l (42 :: r) = stars (l ++ [21]) r := by simp [stars]
theorem bs_brk_no (s : ByteArray) : bs (brk false s) = bs s := rfl
theorem bs_brk_le (b : Bool) (s : ByteArray) : (bs s).length ≤ (bs (brk b s)).length := by
  cases b
  · exact Nat.le_refl _
  · rw [bs_brk_yes]; simp only [List.length_cons, List.length_append]; omega
/-- What each reader makes of an expression's text, whatever stands behind it. -/
structure Reads (d : Nat) (t : Kt) : Prop where
  star : ∀ rest, rStar (rSum d) (bs (brk (t.br 3) t.txt) ++ rest) = stars t.words rest
  prod : ∀ rest, rest.head? ≠ some 42 → rProd (rSum d) (bs (brk (t.br 2) t.txt) ++ rest) = more (rStar (rSum d)) 59 19 (rest.length + 1) t.words rest
  sum : ∀ rest, rest.head? ≠ some 42 → rest.head? ≠ some 59 → rSum (d + 1) (bs t.txt ++ rest) = more (rProd (rSum d)) 43 20 (rest.length + 1) t.words rest
theorem rStar_of {sub : Rdr} {x : List UInt8} {l : List Int} {r : List UInt8} (h : rSingle sub x = some (l, r)) : rStar sub x = stars l r := by simp only [rStar]; rw [h]
theorem rProd_of {sub : Rdr} {x : List UInt8} {l : List Int} {r : List UInt8} (h : rStar sub x = some (l, r)) : rProd sub x = more (rStar sub) 59 19 (r.length + 1) l r := by simp only [rProd]; rw [h]
theorem rSum_of {d : Nat} {x : List UInt8} {l : List Int} {r : List UInt8} (h : rProd (rSum d) x = some (l, r)) : rSum (d + 1) x = more (rProd (rSum d)) 43 20 (r.length + 1) l r := by simp only [rSum, rSum0]; rw [h]
/-- From the reading at strength 3, where the tree ends with none of both signs. -/
theorem Reads.plain {d : Nat} {t : Kt} (h3 : ∀ rest, rStar (rSum d) (bs t.txt ++ rest) = stars t.words rest) (h19 : t.top ≠ 19) (h20 : t.top ≠ 20) : Reads d t := by
  have b3 : t.br 3 = false := by rw [Kt.br_3]; simp [h19, h20]
  have b2 : t.br 2 = false := by rw [Kt.br_2]; simp [h20]
  have hp : ∀ rest, rest.head? ≠ some 42 → rProd (rSum d) (bs t.txt ++ rest) = more (rStar (rSum d)) 59 19 (rest.length + 1) t.words rest := fun rest hr =>
    rProd_of (by rw [h3, stars_end _ _ hr])
  refine ⟨fun rest => by rw [b3]; exact h3 rest, fun rest hr => by rw [b2]; exact hp rest hr, fun rest hr hs => ?_⟩
  exact rSum_of (by rw [hp rest hr]; exact more_end 59 19 _ _ _ hs)
theorem reads_brk {d : Nat} {t : Kt} (h : ∀ rest, rSum d (bs t.txt ++ 41 :: rest) = some (t.words, 41 :: rest)) : ∀ rest, rStar (rSum d) (bs (brk true t.txt) ++ rest) = stars t.words rest := fun rest =>
  rStar_of (single_brk (h rest))
theorem reads_all : ∀ (t : Kt), t.Good → ∀ d, (bs t.txt).length ≤ d → Reads d t
  | .leaf x, hg, d, hd => by
    have hg : 0 ≤ x ∧ x ≤ 18 := hg
    exact Reads.plain (fun rest => rStar_of (leaf_read _ x hg rest)) (by show x ≠ 19; omega) (by show x ≠ 20; omega)
  | .star a, hg, d, hd => by
    have e : (Kt.star a).txt = brk (a.br 3) a.txt ++ ⟨#[42]⟩ := by rw [Kt.br_3']; rfl
    have e2 : bs (Kt.star a).txt = bs (brk (a.br 3) a.txt) ++ [42] := by rw [e, bs_app]; rfl
    have hle : (bs a.txt).length ≤ d := by
      rw [e2] at hd
      cases hb : a.br 3
      · rw [hb, bs_brk_no] at hd; simp only [List.length_append] at hd; omega
      · rw [hb, bs_brk_yes] at hd; simp only [List.length_append, List.length_cons] at hd; omega
    have ih := reads_all a hg d hle
    refine Reads.plain (fun rest => ?_) (by show (21 : Int) ≠ 19; decide) (by show (21 : Int) ≠ 20; decide)
    rw [e2, List.append_assoc, ih.star]
    show stars a.words (42 :: rest) = _
    rw [stars_star]; rfl
  | .two s a b, hg, d, hd => by
    rcases (show s = 19 ∨ s = 20 from hg.1) with rfl | rfl
    · have e2 : bs (Kt.two 19 a b).txt = bs (brk (a.br 2) a.txt) ++ 59 :: bs (brk (b.br 3) b.txt) := by
        have e1 : (Kt.two 19 a b).txt = brk (a.top == 20) a.txt ++ ⟨#[59]⟩ ++ brk (b.top == 20 || b.top == 19) b.txt := rfl
        rw [e1, bs_app, bs_app, ← Kt.br_2, ← Kt.br_3, List.append_assoc]; rfl
      have la := bs_brk_le (a.br 2) a.txt
      have lb := bs_brk_le (b.br 3) b.txt
      have hlen : (bs (Kt.two 19 a b).txt).length = (bs (brk (a.br 2) a.txt)).length + (bs (brk (b.br 3) b.txt)).length + 1 := by
        rw [e2, List.length_append, List.length_cons]; omega
      have key : ∀ d, (bs (Kt.two 19 a b).txt).length ≤ d + 1 → ∀ rest, rest.head? ≠ some 42 → rProd (rSum d) (bs (Kt.two 19 a b).txt ++ rest) = more (rStar (rSum d)) 59 19 (rest.length + 1) (Kt.two 19 a b).words rest := fun d hd rest hr => by
        have iha := reads_all a hg.2.1 d (by omega)
        have ihb := reads_all b hg.2.2 d (by omega)
        rw [e2, List.append_assoc, List.cons_append, iha.prod _ (by simp)]
        rw [more_sign 59 19 _ _ (by rw [ihb.star, stars_end _ _ hr])]
        exact more_fuel (star_less (sum_less d)) 59 19 _ _ _ _ (by simp only [List.length_cons, List.length_append]; omega) (by omega)
      have ksum : ∀ d, (bs (Kt.two 19 a b).txt).length ≤ d + 1 → ∀ rest, rest.head? ≠ some 42 → rest.head? ≠ some 59 → rSum (d + 1) (bs (Kt.two 19 a b).txt ++ rest) = more (rProd (rSum d)) 43 20 (rest.length + 1) (Kt.two 19 a b).words rest := fun d hd rest hr hs =>
        rSum_of (by rw [key d hd rest hr]; exact more_end 59 19 _ _ _ hs)
      have b2 : (Kt.two 19 a b).br 2 = false := by rw [Kt.br_2]; rfl
      have b3 : (Kt.two 19 a b).br 3 = true := by rw [Kt.br_3]; rfl
      refine ⟨fun rest => ?_, fun rest hr => ?_, ksum d (by omega)⟩
      · rw [b3]
        obtain ⟨d, rfl⟩ : ∃ k, d = k + 1 := ⟨d - 1, by omega⟩
        exact reads_brk (fun rest => by rw [ksum d (by omega) _ (by simp) (by simp)]; exact more_end 43 20 _ _ _ (by simp)) rest
      · rw [b2]; exact key d (by omega) rest hr
    · have e2 : bs (Kt.two 20 a b).txt = bs a.txt ++ 43 :: bs (brk (b.br 2) b.txt) := by
        have e1 : (Kt.two 20 a b).txt = a.txt ++ ⟨#[43]⟩ ++ brk (b.top == 20) b.txt := rfl
        rw [e1, bs_app, bs_app, ← Kt.br_2, List.append_assoc]; rfl
      have lb := bs_brk_le (b.br 2) b.txt
      have hlen : (bs (Kt.two 20 a b).txt).length = (bs a.txt).length + (bs (brk (b.br 2) b.txt)).length + 1 := by
        rw [e2, List.length_append, List.length_cons]; omega
      have ksum : ∀ d, (bs (Kt.two 20 a b).txt).length ≤ d + 1 → ∀ rest, rest.head? ≠ some 42 → rest.head? ≠ some 59 → rSum (d + 1) (bs (Kt.two 20 a b).txt ++ rest) = more (rProd (rSum d)) 43 20 (rest.length + 1) (Kt.two 20 a b).words rest := fun d hd rest hr hs => by
        have iha := reads_all a hg.2.1 d (by omega)
        have ihb := reads_all b hg.2.2 d (by omega)
        rw [e2, List.append_assoc, List.cons_append, iha.sum _ (by simp) (by simp)]
        rw [more_sign 43 20 _ _ (by rw [ihb.prod _ hr, more_end 59 19 _ _ _ hs])]
        exact more_fuel (prod_less (sum_less d)) 43 20 _ _ _ _ (by simp only [List.length_cons, List.length_append]; omega) (by omega)
      have b2 : (Kt.two 20 a b).br 2 = true := by rw [Kt.br_2]; rfl
      have b3 : (Kt.two 20 a b).br 3 = true := by rw [Kt.br_3]; rfl
      have kstar : ∀ rest, rStar (rSum d) (bs (brk true (Kt.two 20 a b).txt) ++ rest) = stars (Kt.two 20 a b).words rest := fun rest => by
        obtain ⟨d, rfl⟩ : ∃ k, d = k + 1 := ⟨d - 1, by omega⟩
        exact reads_brk (fun rest => by rw [ksum d (by omega) _ (by simp) (by simp)]; exact more_end 43 20 _ _ _ (by simp)) rest
      refine ⟨fun rest => ?_, fun rest hr => ?_, ksum d (by omega)⟩
      · rw [b3]; exact kstar rest
      · rw [b2]; exact rProd_of (by rw [kstar rest, stars_end _ _ hr])
end Go.Kt
