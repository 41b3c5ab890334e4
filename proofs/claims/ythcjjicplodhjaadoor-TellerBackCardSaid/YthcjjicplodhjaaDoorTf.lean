/- Tf: a part of the proof that each law of this seat answers true at every input. No condition. -/
import Derived.Test.YthcjjicplodhjaaDoorTe
import Derived.Test.YthcjjicplodhjaaDoorRd
set_option linter.unusedVariables false
set_option linter.unusedSimpArgs false
set_option maxRecDepth 20000
section
/- What is told is read as it was: names, numbers, texts in quotes. -/
namespace Go.Te
open Go.Rd
set_option linter.unusedSimpArgs false

theorem takeW {p : UInt8 → Bool} {t r : List UInt8} (h : t.all p = true) (hr : ∀ c l, r = c :: l → p c = false) : (t ++ r).takeWhile p = t ∧ (t ++ r).dropWhile p = r := by
  induction t with
  | nil =>
    cases r with
    | nil => exact ⟨rfl, rfl⟩
    | cons c l => have := hr c l rfl; simp [List.takeWhile, List.dropWhile, this]
  | cons a t ih =>
    simp only [List.all_cons, Bool.and_eq_true] at h
    obtain ⟨i1, i2⟩ := ih h.2
    simp [List.takeWhile, List.dropWhile, h.1, i1, i2]
theorem part_name {c : UInt8} (h : part c = true) : isName c = true ∧ smallB c = c := by
  simp only [part, letter, digit, Bool.or_eq_true, Bool.and_eq_true, decide_eq_true_eq, beq_iff_eq] at h
  constructor
  · simp only [isName, isLetter, isDigit, Bool.or_eq_true, Bool.and_eq_true, decide_eq_true_eq, beq_iff_eq]
    omega
  · unfold smallB
    rw [if_neg (by omega)]
theorem small_all {t : List UInt8} (h : ∀ c ∈ t, smallB c = c) : small t = t := by
  unfold small
  induction t with
  | nil => rfl
  | cons a t ih => rw [List.map_cons, h a (by simp), ih fun c hc => h c (by simp [hc])]
theorem name_back {t r : List UInt8} (h : Te.name t = true) (hr : ∀ c l, r = c :: l → isName c = false) : Rd.name (t ++ r) = .ok t r := by
  cases t with
  | nil => simp [Te.name] at h
  | cons a t =>
    simp only [Te.name, Bool.and_eq_true, decide_eq_true_eq] at h
    obtain ⟨⟨h1, h2⟩, h3⟩ := h
    have hp : ∀ c ∈ a :: t, part c = true := fun c hc => List.all_eq_true.1 h3 c hc
    obtain ⟨i1, i2⟩ := takeW (p := isName) (t := a :: t) (r := r) (List.all_eq_true.2 fun c hc => (part_name (hp c hc)).1) hr
    have hl : isLetter a = true := by
      simp only [letter, Bool.and_eq_true, decide_eq_true_eq] at h2
      simp only [isLetter, Bool.or_eq_true, Bool.and_eq_true, decide_eq_true_eq]
      omega
    unfold Rd.name
    simp only [List.cons_append] at i1 i2 ⊢
    rw [i1, i2, if_pos hl, if_pos h1, small_all fun c hc => (part_name (hp c hc)).2]
theorem quoted_back {t r : List UInt8} (h : Te.fold t = true) : Rd.quoted (34 :: (t ++ 34 :: r)) = .ok t r := by
  have hq : t.all isQuot = true := by
    refine List.all_eq_true.2 fun c hc => ?_
    have := List.all_eq_true.1 h c hc
    simp only [foldC, Bool.and_eq_true, decide_eq_true_eq] at this
    simp only [isQuot, Bool.and_eq_true, decide_eq_true_eq]
    exact this.1
  obtain ⟨i1, i2⟩ := takeW (p := isQuot) (t := t) (r := 34 :: r) hq fun c l e => by
    injection e with e _
    subst e
    decide
  unfold Rd.quoted
  simp only [List.drop_succ_cons, List.drop_zero]
  rw [i1, i2]
  rfl
theorem fold_small {t : List UInt8} (h : Te.fold t = true) : small t = t := small_all fun c hc => by
  have := List.all_eq_true.1 h c hc
  simp only [foldC, Bool.and_eq_true, decide_eq_true_eq, Bool.not_eq_true', Bool.and_eq_false_iff, decide_eq_false_iff_not] at this
  unfold smallB
  rw [if_neg (by omega)]

/-! Numbers. -/
def run (base most : Nat) : Nat → List UInt8 → Option Nat
  | n, [] => some n
  | n, c :: r => if Rd.digit c < base ∧ n * base + Rd.digit c ≤ most then run base most (n * base + Rd.digit c) r else none
theorem run_app {base most : Nat} : ∀ (s t : List UInt8) (n : Nat), run base most n (s ++ t) = (run base most n s).bind fun m => run base most m t
  | [], t, n => rfl
  | c :: s, t, n => by
    simp only [List.cons_append, run]
    split
    · exact run_app s t _
    · rfl
theorem numberL_run {base most : Nat} {r : List UInt8} (hr : ∀ c l, r = c :: l → ¬ Rd.digit c < base) : ∀ (s : List UInt8) (n w : Nat) (ok : Bool), run base most n s = some w → numberL base most n ok (s ++ r) = .ok (w, ok || !s.isEmpty) r
  | [], n, w, ok, h => by
    simp only [run, Option.some.injEq] at h
    subst h
    cases r with
    | nil => simp [numberL]
    | cons c l => simp [numberL, hr c l rfl]
  | c :: s, n, w, ok, h => by
    simp only [run] at h
    split at h
    · rename_i hc
      simp only [List.cons_append, numberL]
      rw [if_pos hc.1, if_pos hc.2, numberL_run hr s _ w true h]
      simp
    · cases h
theorem number_back {base most : Nat} {s r : List UInt8} {w : Nat} (hr : ∀ c l, r = c :: l → ¬ Rd.digit c < base) (h : run base most 0 s = some w) (h0 : s ≠ []) : number base most (s ++ r) = .ok (w, true) r := by
  unfold number
  rw [numberL_run hr s 0 w false h]
  cases s with
  | nil => exact absurd rfl h0
  | cons a s => rfl
theorem number_none {base most : Nat} {r : List UInt8} (hr : ∀ c l, r = c :: l → ¬ Rd.digit c < base) : number base most r = .ok (0, false) r := by
  have := numberL_run (base := base) (most := most) hr [] 0 0 false rfl
  simpa [number] using this
theorem digit_hexC : ∀ n : Nat, n < 16 → Rd.digit (hexC n) = n := by decide
theorem run_hex (n : Nat) (h : n ≤ 1114111) : run 16 1114111 0 (hex n) = some n := by
  induction n using Nat.strongRecOn with
  | _ n ih =>
    rw [hex]
    have d1 := digit_hexC (n / 16 % 16) (by omega)
    have d2 := digit_hexC (n % 16) (by omega)
    split
    · simp only [run, d1, d2]
      rw [if_pos (by omega), if_pos (by omega)]
      congr 1
      omega
    · split
      · have d3 := digit_hexC (n / 256) (by omega)
        simp only [run, d1, d2, d3]
        rw [if_pos (by omega), if_pos (by omega), if_pos (by omega)]
        congr 1
        omega
      · rw [run_app, ih (n / 256) (by omega) (by omega)]
        simp only [Option.bind_some, run, d1, d2]
        rw [if_pos (by omega), if_pos (by omega)]
        congr 1
        omega
theorem hex_ne (n : Nat) : hex n ≠ [] := by
  rw [hex]
  split
  · simp
  · split <;> simp
theorem run_itoa : ∀ n : Nat, n < 201 → run 10 200 0 (Lib.itoa n) = some n ∧ Lib.itoa n ≠ [] := by decide +kernel
end Go.Te
end

section
/- What is told is read as it was: what holds no others. -/
namespace Go.Te
open Go.Rd
set_option linter.unusedSimpArgs false

/-- Behind an element. -/
def StopE (r : List UInt8) : Prop := ∀ c l, r = c :: l → c = 32 ∨ c = 41 ∨ c = 93 ∨ c = 10
theorem StopE.name {r : List UInt8} (h : StopE r) : ∀ c l, r = c :: l → isName c = false := fun c l e => by rcases h c l e with rfl | rfl | rfl | rfl <;> decide
theorem StopE.digit {r : List UInt8} (h : StopE r) : ∀ c l, r = c :: l → ¬ Rd.digit c < 16 := fun c l e => by rcases h c l e with rfl | rfl | rfl | rfl <;> decide
theorem StopE.head {r : List UInt8} (h : StopE r) {n : Nat} (hn : n ≠ 32 ∧ n ≠ 41 ∧ n ≠ 93 ∧ n ≠ 10) : headIs r n = false := by
  cases r with
  | nil => rfl
  | cons c l =>
    simp only [headIs]
    rcases h c l rfl with rfl | rfl | rfl | rfl <;> simp <;> omega
theorem value_back {a : Int} {r : List UInt8} (ha : numC a = true) (hr : ∀ c l, r = c :: l → ¬ Rd.digit c < 16) : value 16 (hex a.toNat ++ r) = .ok a.toNat r := by
  simp only [numC, Bool.and_eq_true, decide_eq_true_eq] at ha
  unfold value
  rw [number_back hr (run_hex a.toNat (by omega)) (hex_ne _)]
  rfl
theorem sep_digit {c : UInt8} {t : List UInt8} (hc : c = 46 ∨ c = 45) : ∀ d l, c :: t = d :: l → ¬ Rd.digit d < 16 := fun d l e => by
  injection e with e _
  subst e
  rcases hc with rfl | rfl <;> decide
theorem valuesL_back : ∀ (l : List Int) (acc : List Int) (r : List UInt8) (n : Nat), l.all numC = true → StopE r → l.length ≤ n → valuesL 16 n acc (Lib.joinTail [46] (l.map fun x => hex x.toNat) ++ r) = .ok (.mk 6 [] (acc ++ l) 0 0 []) r
  | [], acc, r, n, _, hr, _ => by
    have h := hr.head (n := 46) (by omega)
    cases n with
    | zero => simp [valuesL, Lib.joinTail]
    | succ n => simp [valuesL, Lib.joinTail, h]
  | a :: l, acc, r, n, ha, hr, hn => by
    obtain ⟨n, rfl⟩ : ∃ m, n = m + 1 := ⟨n - 1, by simp at hn; omega⟩
    simp only [List.all_cons, Bool.and_eq_true] at ha
    have hd : ∀ c t, Lib.joinTail [46] (l.map fun x => hex x.toNat) ++ r = c :: t → ¬ Rd.digit c < 16 := by
      cases l with
      | nil => simpa [Lib.joinTail] using hr.digit
      | cons b l =>
        intro c t e
        simp only [Lib.joinTail, List.map_cons, List.flatten_cons, List.cons_append, List.nil_append] at e
        exact sep_digit (.inl rfl) c t e
    have hv := value_back ha.1 hd
    have e0 : Lib.joinTail [46] ((a :: l).map fun x => hex x.toNat) ++ r = 46 :: (hex a.toNat ++ (Lib.joinTail [46] (l.map fun x => hex x.toNat) ++ r)) := by simp [Lib.joinTail]
    rw [e0]
    simp only [valuesL, headIs, List.drop_succ_cons, List.drop_zero]
    rw [if_pos (by decide), hv]
    simp only [Res.bind]
    have hz : ((a.toNat : Nat) : Int) = a := by
      have := ha.1
      simp only [numC, Bool.and_eq_true, decide_eq_true_eq] at this
      omega
    rw [hz, valuesL_back l (acc ++ [a]) r n ha.2 hr (by simp at hn; omega)]
    simp
theorem join_length : ∀ l : List Int, l.length ≤ (Lib.joinTail [46] (l.map fun x => hex x.toNat)).length
  | [] => by simp
  | a :: l => by
    have := join_length l
    simp only [Lib.joinTail, List.map_cons, List.flatten_cons, List.length_append, List.length_cons] at this ⊢
    omega
theorem percent_6 {n : List Int} {r : List UInt8} (hn : nums n 1 10000 = true) (hr : StopE r) : percent (numbers n [46] ++ r) = .ok (.mk 6 [] n 0 0 []) r := by
  simp only [nums, Bool.and_eq_true, decide_eq_true_eq] at hn
  obtain ⟨h1, h2, _⟩ := hn
  cases n with
  | nil => simp at h2
  | cons a l =>
    simp only [List.all_cons, Bool.and_eq_true] at h1
    have hz : ((a.toNat : Nat) : Int) = a := by
      have := h1.1
      simp only [numC, Bool.and_eq_true, decide_eq_true_eq] at this
      omega
    have e0 : numbers (a :: l) [46] ++ r = 37 :: 120 :: (hex a.toNat ++ (Lib.joinTail [46] (l.map fun x => hex x.toNat) ++ r)) := by
      unfold numbers
      rw [List.map_cons, Lib.join_cons]
      simp
    have hd : ∀ c t, Lib.joinTail [46] (l.map fun x => hex x.toNat) ++ r = c :: t → ¬ Rd.digit c < 16 := by
      cases l with
      | nil => simpa [Lib.joinTail] using hr.digit
      | cons b l =>
        intro c t e
        simp only [Lib.joinTail, List.map_cons, List.flatten_cons, List.cons_append, List.nil_append] at e
        exact sep_digit (.inl rfl) c t e
    have h45 : headIs (Lib.joinTail [46] (l.map fun x => hex x.toNat) ++ r) 45 = false := by
      cases l with
      | nil => simpa [Lib.joinTail] using hr.head (n := 45) (by omega)
      | cons b l => simp [Lib.joinTail, headIs]
    rw [e0]
    unfold percent
    simp only [List.drop_succ_cons, List.drop_zero]
    rw [if_pos ⟨by decide, .inl (by decide)⟩, if_pos (by decide), show baseOf ((120 : UInt8).toNat ||| 32) = 16 by decide]
    unfold values
    rw [value_back h1.1 hd]
    simp only [Res.bind]
    rw [h45, hz]
    simp only [Bool.false_eq_true, if_false]
    rw [valuesL_back l [a] r _ h1.2 hr (by have := join_length l; rw [List.length_append]; omega)]
    simp
theorem percent_7 {a b : Int} {r : List UInt8} (ha : numC a = true) (hb : numC b = true) (hab : a ≤ b) (hr : StopE r) : percent (numbers [a, b] [45] ++ r) = .ok (.mk 7 [] [a, b] 0 0 []) r := by
  have e0 : numbers [a, b] [45] ++ r = 37 :: 120 :: (hex a.toNat ++ (45 :: (hex b.toNat ++ r))) := by
    unfold numbers
    rw [List.map_cons, Lib.join_cons]
    simp [Lib.joinTail]
  have za : ((a.toNat : Nat) : Int) = a := by simp only [numC, Bool.and_eq_true, decide_eq_true_eq] at ha; omega
  have zb : ((b.toNat : Nat) : Int) = b := by simp only [numC, Bool.and_eq_true, decide_eq_true_eq] at hb; omega
  rw [e0]
  unfold percent
  simp only [List.drop_succ_cons, List.drop_zero]
  rw [if_pos ⟨by decide, .inl (by decide)⟩, if_pos (by decide), show baseOf ((120 : UInt8).toNat ||| 32) = 16 by decide]
  unfold values
  rw [value_back ha (sep_digit (.inr rfl))]
  simp only [Res.bind, headIs, List.drop_succ_cons, List.drop_zero]
  rw [if_pos (by decide), value_back hb hr.digit]
  simp only [Res.bind]
  rw [if_pos (by omega), za, zb]
theorem name_head {t : List UInt8} (h : Te.name t = true) : ∃ c l, t = c :: l ∧ 97 ≤ c.toNat ∧ c.toNat ≤ 122 := by
  cases t with
  | nil => simp [Te.name] at h
  | cons c l =>
    simp only [Te.name, letter, Bool.and_eq_true, decide_eq_true_eq] at h
    exact ⟨c, l, rfl, h.1.2.1, h.1.2.2⟩
/-- What holds no others, as an element. -/
theorem leaf_back {k : Int} {t : List UInt8} {n : List Int} {lo hi : Int} (h : own k t n lo hi 0 = true) (hk : ¬ (k = 1 ∨ k = 2)) (hk3 : ¬ k = 3) {grp : Nat → List UInt8 → Res Rd.Expr} {r : List UInt8} (hr : StopE r) :
    elementG grp (text (.mk k t n lo hi []) ++ r) = .ok (.mk k t n lo hi []) r := by
  have h1 : ¬ k = 1 := fun e => hk (.inl e)
  have h2 : ¬ k = 2 := fun e => hk (.inr e)
  simp only [own, if_neg hk, if_neg hk3] at h
  rw [text, if_neg h1, if_neg h2, if_neg hk3]
  by_cases h4 : k = 4
  · subst h4
    simp only [if_true, Bool.and_eq_true, decide_eq_true_eq] at h ⊢
    obtain ⟨⟨⟨⟨rfl, rfl⟩, rfl⟩, _⟩, ht⟩ := h
    obtain ⟨c, l, rfl, c1, c2⟩ := name_head ht
    have hb := name_back ht hr.name
    unfold elementG
    simp only [List.cons_append, headIs, beq_iff_eq] at hb ⊢
    rw [if_neg (by omega), if_neg (by omega), if_neg (by omega), if_neg (by omega), hb]
    rfl
  · simp only [if_neg h4] at h ⊢
    by_cases h5 : k = 5
    · subst h5
      simp only [if_true, Bool.and_eq_true, decide_eq_true_eq] at h ⊢
      obtain ⟨⟨⟨⟨rfl, rfl⟩, rfl⟩, _⟩, ht⟩ := h
      have hb := quoted_back (t := t) (r := r) ht
      unfold elementG
      have e0 : 34 :: (t ++ [34]) ++ r = 34 :: (t ++ 34 :: r) := by simp
      rw [e0]
      have i1 : headIs (34 :: (t ++ 34 :: r)) 40 = false := rfl
      have i2 : headIs (34 :: (t ++ 34 :: r)) 91 = false := rfl
      have i3 : headIs (34 :: (t ++ 34 :: r)) 34 = true := rfl
      rw [i1, i2, i3, hb]
      simp [Res.bind, Rd.fold, fold_small ht]
    · simp only [if_neg h5] at h ⊢
      have pc : ∀ s : List UInt8, elementG grp (37 :: s) = percent (37 :: s) := fun s => by
        unfold elementG
        have i1 : headIs (37 :: s) 40 = false := rfl
        have i2 : headIs (37 :: s) 91 = false := rfl
        have i3 : headIs (37 :: s) 34 = false := rfl
        have i4 : headIs (37 :: s) 37 = true := rfl
        rw [i1, i2, i3, i4]
        rfl
      have nm : ∀ (m : List Int) (sep : List UInt8), ∃ s, numbers m sep ++ r = 37 :: s := fun m sep => ⟨_, rfl⟩
      by_cases h6 : k = 6
      · subst h6
        simp only [if_true, Bool.and_eq_true, decide_eq_true_eq] at h ⊢
        obtain ⟨⟨⟨⟨rfl, rfl⟩, rfl⟩, _⟩, ht⟩ := h
        obtain ⟨s, hs⟩ := nm n [46]
        rw [hs, pc, ← hs]
        exact percent_6 ht hr
      · simp only [if_neg h6] at h ⊢
        by_cases h7 : k = 7
        · subst h7
          simp only [if_true, Bool.and_eq_true, decide_eq_true_eq] at h
          obtain ⟨⟨⟨⟨⟨rfl, rfl⟩, rfl⟩, _⟩, ht⟩, hab⟩ := h
          simp only [nums, Bool.and_eq_true, decide_eq_true_eq] at ht
          match n, ht, hab with
          | [a, b], ht, hab =>
            simp only [List.all_cons, List.all_nil, Bool.and_true, Bool.and_eq_true, decide_eq_true_eq] at ht hab
            obtain ⟨s, hs⟩ := nm [a, b] [45]
            rw [hs, pc, ← hs]
            exact percent_7 ht.1.1 ht.1.2 hab hr
        · simp only [if_neg h7, Bool.false_eq_true] at h
end Go.Te
end

section
/- What is told is read as it was: how often something stands. -/
namespace Go.Te
open Go.Rd
set_option linter.unusedSimpArgs false

/-- A byte that a text of an expression begins with. -/
def Beg (c : UInt8) : Bool := isLetter c || Rd.isDigit c || c.toNat == 34 || c.toNat == 37 || c.toNat == 40 || c.toNat == 42 || c.toNat == 91
theorem room_self {c : UInt8} {l : List UInt8} (h : isBlank c = false) (h1 : c.toNat ≠ 59) (h2 : c.toNat ≠ 10) (h3 : c.toNat ≠ 13) : room (c :: l) = c :: l := by
  unfold room
  have he : endN (c :: l) = none := by
    unfold endN endRest
    simp [headIs, h1, h2, h3]
  simp only [List.length_cons, roomN, h, he, Bool.false_eq_true, if_false]
theorem room_beg {c : UInt8} {l : List UInt8} (h : Beg c = true) : room (c :: l) = c :: l := by
  simp only [Beg, isLetter, Rd.isDigit, Bool.or_eq_true, Bool.and_eq_true, decide_eq_true_eq, beq_iff_eq] at h
  refine room_self ?_ (by omega) (by omega) (by omega)
  simp only [isBlank, Bool.or_eq_false_iff, beq_eq_false_iff_ne]
  omega
/-- What stands in brackets is read. -/
def GrpOk (grp : Nat → List UInt8 → Res Rd.Expr) (x : Rd.Expr) : Prop := ∀ r : List UInt8, grp 41 (40 :: (text x ++ 41 :: r)) = .ok x r ∧ grp 93 (91 :: (text x ++ 93 :: r)) = .ok x r
theorem el_group {grp : Nat → List UInt8 → Res Rd.Expr} {x : Rd.Expr} (h : GrpOk grp x) (r : List UInt8) : elementG grp (40 :: (text x ++ 41 :: r)) = .ok x r := by
  unfold elementG
  rw [show headIs (40 :: (text x ++ 41 :: r)) 40 = true from rfl]
  exact (h r).1
theorem rep_plain {grp : Nat → List UInt8 → Res Rd.Expr} {c : UInt8} {s r : List UInt8} {x : Rd.Expr} (h1 : ¬ Rd.digit c < 10) (h2 : c.toNat ≠ 42) (h : elementG grp (c :: s) = .ok x r) : repeated (elementG grp) (c :: s) = .ok x r := by
  unfold repeated
  rw [number_none fun d l e => by injection e with e _; subst e; exact h1]
  have h3 : headIs (c :: s) 42 = false := by simp [headIs, h2]
  simp only [Res.bind, h3, Bool.false_eq_true, if_false, h]
  rfl
theorem rep_group {grp : Nat → List UInt8 → Res Rd.Expr} {x : Rd.Expr} (h : GrpOk grp x) (r : List UInt8) : repeated (elementG grp) (40 :: (text x ++ 41 :: r)) = .ok x r :=
  rep_plain (by decide) (by decide) (el_group h r)
/-- The first byte of what holds no others. -/
theorem leaf_head {k : Int} {t : List UInt8} {n : List Int} {lo hi : Int} (h : own k t n lo hi 0 = true) (hk : ¬ (k = 1 ∨ k = 2)) (hk3 : ¬ k = 3) : ∃ c s, text (.mk k t n lo hi []) = c :: s ∧ Beg c = true ∧ ¬ Rd.digit c < 10 ∧ c.toNat ≠ 42 := by
  have h1 : ¬ k = 1 := fun e => hk (.inl e)
  have h2 : ¬ k = 2 := fun e => hk (.inr e)
  simp only [own, if_neg hk, if_neg hk3] at h
  rw [text, if_neg h1, if_neg h2, if_neg hk3]
  by_cases h4 : k = 4
  · simp only [if_pos h4, Bool.and_eq_true] at h ⊢
    obtain ⟨c, l, rfl, c1, c2⟩ := name_head h.2
    refine ⟨c, l, rfl, ?_, ?_, by omega⟩
    · simp only [Beg, isLetter, Bool.or_eq_true, Bool.and_eq_true, decide_eq_true_eq]
      omega
    · unfold Rd.digit Rd.isDigit
      simp only [Bool.and_eq_true, decide_eq_true_eq]
      rw [if_neg (by omega)]
      split
      · omega
      · split <;> omega
  · simp only [if_neg h4] at h ⊢
    by_cases h5 : k = 5
    · rw [if_pos h5]
      exact ⟨_, _, rfl, by decide, by decide, by decide⟩
    · rw [if_neg h5]
      split
      · exact ⟨37, _, rfl, by decide, by decide, by decide⟩
      · exact ⟨37, _, rfl, by decide, by decide, by decide⟩
theorem leaf_rep {k : Int} {t : List UInt8} {n : List Int} {lo hi : Int} (h : own k t n lo hi 0 = true) (hk : ¬ (k = 1 ∨ k = 2)) (hk3 : ¬ k = 3) {grp : Nat → List UInt8 → Res Rd.Expr} {r : List UInt8} (hr : StopE r) :
    repeated (elementG grp) (text (.mk k t n lo hi []) ++ r) = .ok (.mk k t n lo hi []) r := by
  obtain ⟨c, s, e, _, h1, h2⟩ := leaf_head h hk hk3
  have hb := leaf_back h hk hk3 (grp := grp) hr
  rw [e] at hb ⊢
  exact rep_plain h1 h2 hb
/-- What stands so often. -/
theorem often_rep {grp : Nat → List UInt8 → Res Rd.Expr} {lo hi : Int} (o4 : 0 ≤ lo) (o5 : lo ≤ 200) (o6 : hi ≤ 200) (o7 : -1 ≤ hi) (o8 : hi < 0 ∨ lo ≤ hi) {c : UInt8} {s r : List UInt8} {x : Rd.Expr} (h1 : ¬ Rd.digit c < 10) (h2 : c.toNat ≠ 42) (h : elementG grp (c :: s) = .ok x r) :
    repeated (elementG grp) (often lo hi ++ c :: s) = .ok (.mk 3 [] [] lo hi [x]) r := by
  have hd : ∀ d l, c :: s = d :: l → ¬ Rd.digit d < 10 := fun d l e => by injection e with e _; subst e; exact h1
  have h42 : headIs (c :: s) 42 = false := by simp [headIs, h2]
  have num : ∀ n : Int, 0 ≤ n → n ≤ 200 → ∀ q : List UInt8, (∀ d l, q = d :: l → ¬ Rd.digit d < 10) → number 10 200 (Lib.itoa n ++ q) = .ok (n.toNat, true) q := fun n n0 n1 q hq => by
    obtain ⟨r1, r2⟩ := run_itoa n.toNat (by omega)
    rw [show ((n.toNat : Nat) : Int) = n by omega] at r1 r2
    exact number_back hq r1 r2
  have star : ∀ q : List UInt8, ∀ d l, 42 :: q = d :: l → ¬ Rd.digit d < 10 := fun q d l e => by injection e with e _; subst e; decide
  have zlo : ((lo.toNat : Nat) : Int) = lo := by omega
  unfold often
  by_cases hz : hi = 0
  · have hl : lo = 0 := by omega
    subst hl
    subst hz
    rw [if_pos rfl]
    have hn := num 0 (by omega) (by omega) (c :: s) hd
    have e0 : Lib.itoa 0 = [48] := by decide +kernel
    rw [e0] at hn
    unfold repeated
    rw [hn]
    simp only [Res.bind, h42, Bool.false_eq_true, if_false, h]
    simp
  rw [if_neg hz]
  have back : ∀ l1 : Nat × Bool, (l1.1 : Int) = lo → ∀ q, headIs q 42 = true → q = 42 :: ((if 0 ≤ hi then Lib.itoa hi else []) ++ c :: s) → (Res.ok l1 q).bind (fun l s1 => (if headIs s1 42 then number 10 200 (s1.drop 1) else .ok l s1).bind fun h s2 => (elementG grp s2).bind fun e s3 =>
        if !l.2 && !headIs s1 42 then .ok e s3
        else if h.2 then (if l.1 ≤ h.1 then .ok (.mk 3 [] [] l.1 h.1 [e]) s3 else .err 20 s3)
        else .ok (.mk 3 [] [] l.1 (-1) [e]) s3) = .ok (.mk 3 [] [] lo hi [x]) r := fun l1 hl1 q hq e => by
    simp only [Res.bind, hq, if_true]
    rw [e]
    simp only [List.drop_succ_cons, List.drop_zero]
    by_cases hp : 0 ≤ hi
    · rw [if_pos hp, num hi hp o6 _ hd]
      have zhi : ((hi.toNat : Nat) : Int) = hi := by omega
      have hle : l1.1 ≤ hi.toNat := by omega
      simp only [h, Bool.not_true, Bool.and_false, Bool.false_eq_true, if_false, if_true, if_pos hle, hl1, zhi]
    · have hm : hi = -1 := by omega
      rw [if_neg hp, List.nil_append, number_none hd]
      simp only [h, Bool.not_true, Bool.and_false, Bool.false_eq_true, if_false, hl1, hm]
  by_cases hp : 0 < lo
  · rw [if_pos hp]
    by_cases he : hi = lo
    · subst he
      rw [if_pos rfl, List.append_nil]
      unfold repeated
      rw [num hi o4 o5 _ hd]
      simp only [Res.bind, h42, Bool.false_eq_true, if_false, h, Bool.not_true, Bool.false_and, if_true, Nat.le_refl, zlo]
    · rw [if_neg he, List.append_assoc]
      unfold repeated
      rw [show (42 :: (if 0 ≤ hi then Lib.itoa hi else [])) ++ c :: s = 42 :: ((if 0 ≤ hi then Lib.itoa hi else []) ++ c :: s) from rfl, num lo o4 o5 _ (star _)]
      exact back (lo.toNat, true) zlo _ rfl rfl
  · have hl : lo = 0 := by omega
    subst hl
    rw [if_neg (by omega), List.nil_append, if_neg hz]
    unfold repeated
    rw [show (42 :: (if 0 ≤ hi then Lib.itoa hi else [])) ++ c :: s = 42 :: ((if 0 ≤ hi then Lib.itoa hi else []) ++ c :: s) from rfl, number_none (star _)]
    exact back (0, false) rfl _ rfl rfl
end Go.Te
end

section
/- What is told is read as it was: rows, ways, brackets. -/
namespace Go.Te
open Go.Rd
set_option linter.unusedSimpArgs false

/-- Behind ways; behind a row. -/
def StopW (r : List UInt8) : Prop := r = [] ∨ (∃ l, r = 41 :: l) ∨ (∃ l, r = 93 :: l) ∨ ∃ l, r = 10 :: l ∧ ∀ d m, l = d :: m → isBlank d = false
def StopR (r : List UInt8) : Prop := StopW r ∨ ∃ l, r = 32 :: 47 :: l
theorem StopW.e {r : List UInt8} (h : StopW r) : StopE r := fun c l e => by
  rcases h with h | ⟨m, h⟩ | ⟨m, h⟩ | ⟨m, h, _⟩ <;> rw [h] at e
  · cases e
  · injection e with e _; exact .inr (.inl e.symm)
  · injection e with e _; exact .inr (.inr (.inl e.symm))
  · injection e with e _; exact .inr (.inr (.inr e.symm))
theorem StopR.e {r : List UInt8} (h : StopR r) : StopE r := by
  rcases h with h | ⟨l, rfl⟩
  · exact h.e
  · intro c m e; injection e with e _; exact .inl e.symm
theorem room_stop {r : List UInt8} (h : StopW r) : room r = r := by
  rcases h with rfl | ⟨l, rfl⟩ | ⟨l, rfl⟩ | ⟨l, rfl, hb⟩
  · rfl
  · exact room_self (by decide) (by decide) (by decide) (by decide)
  · exact room_self (by decide) (by decide) (by decide) (by decide)
  · unfold room
    have he : endN (10 :: l) = some 1 := by
      unfold endN endRest
      simp [headIs]
    simp only [List.length_cons, roomN, he, show isBlank 10 = false by decide, Bool.false_eq_true, if_false]
    cases l with
    | nil => rfl
    | cons d m => simp [hb d m rfl]
theorem room_sp {c : UInt8} {l : List UInt8} (h : room (c :: l) = c :: l) : room (32 :: c :: l) = c :: l := by
  unfold room at h ⊢
  simp only [List.length_cons] at h ⊢
  rw [roomN]
  simp only [show isBlank 32 = true by decide, if_true]
  exact h
theorem room_slash (l : List UInt8) : room (32 :: 47 :: l) = 47 :: l := room_sp (room_self (by decide) (by decide) (by decide) (by decide))
theorem row_stop {rep : List UInt8 → Res Rd.Expr} {l : List Rd.Expr} {r : List UInt8} (h : StopR r) : ∀ n, rowL rep n l r = .ok (some_ 2 l) r
  | 0 => rfl
  | n + 1 => by
    rw [rowL]
    rcases h with h | ⟨m, rfl⟩
    · rw [room_stop h]
      simp
    · rw [room_slash]
      simp [begins, isLetter, Rd.isDigit]
theorem ways_stop {row : List UInt8 → Res Rd.Expr} {l : List Rd.Expr} {r : List UInt8} (h : StopW r) : ∀ n, waysL row n l r = .ok (some_ 1 l) r
  | 0 => rfl
  | n + 1 => by
    rw [waysL, room_stop h]
    have h47 : headIs r 47 = false := h.e.head (by omega)
    rw [h47]
    rfl
/-- The first byte. -/
theorem wrap_head {b : Bool} {s : List UInt8} (h : ∃ c l, s = c :: l ∧ Beg c = true) : ∃ c l, wrapB b s = c :: l ∧ Beg c = true := by
  obtain ⟨c, l, rfl, hc⟩ := h
  cases b
  · exact ⟨c, l, rfl, hc⟩
  · exact ⟨40, _, rfl, by decide⟩
theorem join_head {l : List (List UInt8)} {sep : List UInt8} {x : List UInt8} (h : ∃ c m, x = c :: m ∧ Beg c = true) : ∃ c m, Lib.join (x :: l) sep = c :: m ∧ Beg c = true := by
  obtain ⟨c, m, rfl, hc⟩ := h
  rw [Lib.join_cons]
  exact ⟨c, _, rfl, hc⟩
theorem itoa_beg : ∀ n : Nat, n < 201 → (match Lib.itoa n with
    | [] => false
    | c :: _ => Beg c) = true := by decide +kernel
theorem often_head {lo hi : Int} (o4 : 0 ≤ lo) (o5 : lo ≤ 200) : ∃ c m, often lo hi = c :: m ∧ Beg c = true := by
  unfold often
  split
  · exact ⟨48, [], rfl, by decide⟩
  · by_cases hp : 0 < lo
    · rw [if_pos hp]
      have h := itoa_beg lo.toNat (by omega)
      rw [show ((lo.toNat : Nat) : Int) = lo by omega] at h
      cases hi' : Lib.itoa lo with
      | nil => rw [hi'] at h; cases h
      | cons c m => rw [hi'] at h; exact ⟨c, _, rfl, h⟩
    · rw [if_neg hp, if_neg (by omega)]
      exact ⟨42, _, rfl, by decide⟩
theorem text_head : ∀ (d : Nat) (e : Rd.Expr), right d e = true → ∃ c l, text e = c :: l ∧ Beg c = true
  | d, .mk k t n lo hi ks, h => by
    obtain ⟨ho, hk⟩ : own k t n lo hi ks.length = true ∧ ∀ x ∈ ks, ∃ c l, text x = c :: l ∧ Beg c = true := by
      cases d with
      | zero =>
        simp only [right, Bool.and_eq_true, List.isEmpty_iff] at h
        obtain ⟨rfl, h⟩ := h
        exact ⟨h, by simp⟩
      | succ d =>
        simp only [right, Bool.and_eq_true, List.all_eq_true] at h
        exact ⟨h.2, fun x hx => text_head d x (h.1 x hx)⟩
    by_cases h12 : k = 1 ∨ k = 2
    · simp only [own, if_pos h12, Bool.and_eq_true, decide_eq_true_eq] at ho
      match ks, ho.2, hk with
      | x :: ks, _, hk =>
        rw [text]
        rcases h12 with rfl | rfl
        · rw [if_pos rfl, textsL]
          exact join_head (wrap_head (hk x (by simp)))
        · rw [if_neg (by omega), if_pos rfl, textsL]
          exact join_head (wrap_head (hk x (by simp)))
    · by_cases h3 : k = 3
      · subst h3
        simp only [own, if_neg h12, if_true, Bool.and_eq_true, decide_eq_true_eq] at ho
        obtain ⟨⟨⟨⟨⟨⟨⟨o1, o2⟩, o3⟩, o4⟩, o5⟩, o6⟩, o7⟩, o8⟩ := ho
        rw [text, if_neg (by omega), if_neg (by omega), if_pos rfl]
        split
        · exact ⟨91, _, rfl, by decide⟩
        · obtain ⟨c, m, e, hc⟩ := often_head (hi := hi) o4 o5
          rw [e]
          exact ⟨c, _, rfl, hc⟩
      · have hks : ks = [] := by
          unfold own at ho
          simp only [if_neg h12, if_neg h3] at ho
          have : ks.length = 0 := by
            split at ho
            · simp only [Bool.and_eq_true, decide_eq_true_eq] at ho; exact ho.1.2
            · split at ho
              · simp only [Bool.and_eq_true, decide_eq_true_eq] at ho; exact ho.1.2
              · split at ho
                · simp only [Bool.and_eq_true, decide_eq_true_eq] at ho; exact ho.1.2
                · split at ho
                  · simp only [Bool.and_eq_true, decide_eq_true_eq] at ho; exact ho.1.1.2
                  · simp at ho
          exact List.eq_nil_of_length_eq_zero this
        subst hks
        obtain ⟨c, s, e, hc, _, _⟩ := leaf_head ho h12 h3
        exact ⟨c, s, e, hc⟩
  termination_by d => d
end Go.Te
end

section
/- What is told is read as it was: expressions. -/
namespace Go.Te
open Go.Rd
set_option linter.unusedSimpArgs false

def kidsE : Rd.Expr → List Rd.Expr
  | .mk _ _ _ _ _ ks => ks
theorem leaf_nil {k : Int} {t : List UInt8} {n : List Int} {lo hi : Int} {c : Nat} (ho : own k t n lo hi c = true) (h12 : ¬ (k = 1 ∨ k = 2)) (h3 : ¬ k = 3) : c = 0 := by
  unfold own at ho
  simp only [if_neg h12, if_neg h3] at ho
  split at ho
  · simp only [Bool.and_eq_true, decide_eq_true_eq] at ho; exact ho.1.2
  · split at ho
    · simp only [Bool.and_eq_true, decide_eq_true_eq] at ho; exact ho.1.2
    · split at ho
      · simp only [Bool.and_eq_true, decide_eq_true_eq] at ho; exact ho.1.2
      · split at ho
        · simp only [Bool.and_eq_true, decide_eq_true_eq] at ho; exact ho.1.1.2
        · simp at ho
theorem right_own {d : Nat} {k : Int} {t : List UInt8} {n : List Int} {lo hi : Int} {ks : List Rd.Expr} (h : right d (.mk k t n lo hi ks) = true) : own k t n lo hi ks.length = true := by
  cases d with
  | zero =>
    simp only [right, Bool.and_eq_true, List.isEmpty_iff] at h
    obtain ⟨rfl, h⟩ := h
    exact h
  | succ d =>
    simp only [right, Bool.and_eq_true] at h
    exact h.2
theorem el_inner {grp : Nat → List UInt8 → Res Rd.Expr} {x : Rd.Expr} {d : Nat} (hx : right d x = true) (hg : GrpOk grp x) {r : List UInt8} (hr : StopE r) :
    ∃ c s, wrapB (inL [1, 2, 3] (kindE x)) (text x) ++ r = c :: s ∧ ¬ Rd.digit c < 10 ∧ c.toNat ≠ 42 ∧ elementG grp (c :: s) = .ok x r := by
  cases hi : inL [1, 2, 3] (kindE x) with
  | true => exact ⟨40, text x ++ 41 :: r, by simp [wrapB], by decide, by decide, el_group hg r⟩
  | false =>
    cases x with
    | mk k t n lo hi' ks =>
      have h12 : ¬ (k = 1 ∨ k = 2) := by rintro (rfl | rfl) <;> simp [inL, kindE] at hi
      have h3 : ¬ k = 3 := by rintro rfl; simp [inL, kindE] at hi
      have ho := right_own hx
      have hn := leaf_nil ho h12 h3
      obtain rfl : ks = [] := List.eq_nil_of_length_eq_zero hn
      obtain ⟨c, s, e, _, h1, h2⟩ := leaf_head ho h12 h3
      have hb := leaf_back ho h12 h3 (grp := grp) hr
      refine ⟨c, s ++ r, by simp [wrapB, e], h1, h2, ?_⟩
      rw [e] at hb
      exact hb
theorem rep_back {grp : Nat → List UInt8 → Res Rd.Expr} {e : Rd.Expr} {d : Nat} (he : right d e = true) (hk : ¬ (kindE e = 1 ∨ kindE e = 2)) (hkr : ∀ x ∈ kidsE e, ∃ d, right d x = true) (hg : ∀ x ∈ kidsE e, GrpOk grp x) {r : List UInt8} (hr : StopE r) :
    repeated (elementG grp) (text e ++ r) = .ok e r := by
  cases e with
  | mk k t n lo hi ks =>
    have ho := right_own he
    by_cases h3 : k = 3
    · subst h3
      simp only [own, if_neg (show ¬ ((3 : Int) = 1 ∨ (3 : Int) = 2) by omega), if_true, Bool.and_eq_true, Bool.or_eq_true, decide_eq_true_eq] at ho
      obtain ⟨⟨⟨⟨⟨⟨⟨rfl, rfl⟩, o3⟩, o4⟩, o5⟩, o6⟩, o7⟩, o8⟩ := ho
      obtain ⟨x, rfl⟩ := List.length_eq_one_iff.1 o3
      have hgx := hg x (by simp [kidsE])
      obtain ⟨d', hx⟩ := hkr x (by simp [kidsE])
      rw [text, if_neg (by omega), if_neg (by omega), if_pos rfl]
      simp only [textsL, List.headD_cons]
      by_cases hq : lo = 0 ∧ hi = 1
      · obtain ⟨rfl, rfl⟩ := hq
        rw [if_pos ⟨rfl, rfl⟩]
        have ew : wrapB (inL [] (kindE x)) (text x) = text x := by simp [wrapB, inL]
        rw [ew, show 91 :: (text x ++ [93]) ++ r = 91 :: (text x ++ 93 :: r) by simp]
        refine rep_plain (by decide) (by decide) ?_
        unfold elementG
        rw [show headIs (91 :: (text x ++ 93 :: r)) 40 = false from rfl, show headIs (91 :: (text x ++ 93 :: r)) 91 = true from rfl]
        simp only [Bool.false_eq_true, if_false, if_true]
        rw [(hgx r).2]
        rfl
      · rw [if_neg hq, List.append_assoc]
        obtain ⟨c, s, e1, h1, h2, h4⟩ := el_inner hx hgx hr
        rw [e1]
        exact often_rep o4 o5 o6 o7 o8 h1 h2 h4
    · have hn := leaf_nil ho hk h3
      obtain rfl : ks = [] := List.eq_nil_of_length_eq_zero hn
      exact leaf_rep ho hk h3 hr
theorem tail_stopE {sep : List UInt8} {l : List (List UInt8)} {r : List UInt8} (hs : ∃ q, sep = 32 :: q) (hr : StopE r) : StopE (Lib.joinTail sep l ++ r) := by
  obtain ⟨q, rfl⟩ := hs
  cases l with
  | nil => simpa [Lib.joinTail] using hr
  | cons x l =>
    intro c m e
    simp only [Lib.joinTail, List.map_cons, List.flatten_cons, List.cons_append] at e
    injection e with e _
    exact .inl e.symm
theorem begins_beg (c : UInt8) (l : List UInt8) : begins (c :: l) = Beg c := rfl
theorem rowL_back {rep : List UInt8 → Res Rd.Expr} {W : Rd.Expr → List UInt8} {r : List UInt8} (hr : StopR r) : ∀ (ks acc : List Rd.Expr) (n : Nat), (∀ x ∈ ks, ∀ r', StopE r' → rep (W x ++ r') = .ok x r') → (∀ x ∈ ks, ∃ c l, W x = c :: l ∧ Beg c = true) → ks.length ≤ n →
    rowL rep n acc (Lib.joinTail [32] (ks.map W) ++ r) = .ok (some_ 2 (acc ++ ks)) r
  | [], acc, n, _, _, _ => by simpa [Lib.joinTail] using row_stop (rep := rep) (l := acc) hr n
  | x :: ks, acc, n, h1, h2, hn => by
    obtain ⟨n, rfl⟩ : ∃ m, n = m + 1 := ⟨n - 1, by simp at hn; omega⟩
    obtain ⟨c, l, hw, hc⟩ := h2 x (by simp)
    have e0 : Lib.joinTail [32] ((x :: ks).map W) ++ r = 32 :: (W x ++ (Lib.joinTail [32] (ks.map W) ++ r)) := by simp [Lib.joinTail]
    have hx := h1 x (by simp) _ (tail_stopE (l := ks.map W) ⟨[], rfl⟩ hr.e)
    rw [e0]
    rw [hw] at hx ⊢
    simp only [List.cons_append] at hx ⊢
    rw [rowL, room_sp (room_beg hc), begins_beg, hc, hx]
    simp only [List.length_cons, Nat.lt_succ_self, decide_true, Bool.and_self, if_true, Res.bind]
    rw [rowL_back hr ks (acc ++ [x]) n (fun y hy => h1 y (by simp [hy])) (fun y hy => h2 y (by simp [hy])) (by simp at hn; omega)]
    simp
theorem waysL_back {row : List UInt8 → Res Rd.Expr} {W : Rd.Expr → List UInt8} {r : List UInt8} (hr : StopW r) : ∀ (ks acc : List Rd.Expr) (n : Nat), (∀ x ∈ ks, ∀ r', StopR r' → row (W x ++ r') = .ok x r') → (∀ x ∈ ks, ∃ c l, W x = c :: l ∧ Beg c = true) → ks.length ≤ n →
    waysL row n acc (Lib.joinTail [32, 47, 32] (ks.map W) ++ r) = .ok (some_ 1 (acc ++ ks)) r
  | [], acc, n, _, _, _ => by simpa [Lib.joinTail] using ways_stop (row := row) (l := acc) hr n
  | x :: ks, acc, n, h1, h2, hn => by
    obtain ⟨n, rfl⟩ : ∃ m, n = m + 1 := ⟨n - 1, by simp at hn; omega⟩
    obtain ⟨c, l, hw, hc⟩ := h2 x (by simp)
    have e0 : Lib.joinTail [32, 47, 32] ((x :: ks).map W) ++ r = 32 :: 47 :: 32 :: (W x ++ (Lib.joinTail [32, 47, 32] (ks.map W) ++ r)) := by simp [Lib.joinTail]
    have hs : StopR (Lib.joinTail [32, 47, 32] (ks.map W) ++ r) := by
      cases ks with
      | nil => exact .inl (by simpa [Lib.joinTail] using hr)
      | cons y ks => exact .inr ⟨32 :: (W y ++ (Lib.joinTail [32, 47, 32] (ks.map W) ++ r)), by simp [Lib.joinTail]⟩
    have hx := h1 x (by simp) _ hs
    rw [e0]
    rw [hw] at hx ⊢
    simp only [List.cons_append] at hx ⊢
    rw [waysL, room_slash]
    simp only [headIs, List.drop_succ_cons, List.drop_zero]
    rw [if_pos (by decide), room_sp (room_beg hc), hx]
    simp only [Res.bind]
    rw [waysL_back hr ks (acc ++ [x]) n (fun y hy => h1 y (by simp [hy])) (fun y hy => h2 y (by simp [hy])) (by simp at hn; omega)]
    simp
end Go.Te
end

section
/- What is told is read as it was: all of it. -/
namespace Go.Te
open Go.Rd
set_option linter.unusedSimpArgs false

theorem rep_inner {grp : Nat → List UInt8 → Res Rd.Expr} {x : Rd.Expr} {d : Nat} (hx : right d x = true) (hkr : ∀ y ∈ kidsE x, ∃ d, right d y = true) (hg : ∀ y ∈ kidsE x, GrpOk grp y) (hgx : GrpOk grp x) {r : List UInt8} (hr : StopE r) :
    repeated (elementG grp) (wrapB (inL [1, 2] (kindE x)) (text x) ++ r) = .ok x r := by
  cases hi : inL [1, 2] (kindE x) with
  | true =>
    rw [show wrapB true (text x) ++ r = 40 :: (text x ++ 41 :: r) by simp [wrapB]]
    exact rep_group hgx r
  | false =>
    have hk : ¬ (kindE x = 1 ∨ kindE x = 2) := by rintro (h | h) <;> rw [h] at hi <;> simp [inL] at hi
    simpa [wrapB] using rep_back hx hk hkr hg hr
theorem some_2 (ks : List Rd.Expr) (h : 1 < ks.length) (k : Int) : some_ k ks = .mk k [] [] 0 0 ks := by
  match ks, h with
  | a :: b :: ks, _ => rfl
/-- A row, but for ways. -/
theorem row_back {grp : Nat → List UInt8 → Res Rd.Expr} {e : Rd.Expr} {d : Nat} (he : right d e = true) (hk : ¬ kindE e = 1) (hkr : ∀ x ∈ kidsE e, ∃ d, right d x = true) (hkk : ∀ x ∈ kidsE e, ∀ y ∈ kidsE x, (∃ d, right d y = true) ∧ GrpOk grp y) (hg : ∀ x ∈ kidsE e, GrpOk grp x) {r : List UInt8} (hr : StopR r) :
    row (repeated (elementG grp)) (text e ++ r) = .ok e r := by
  by_cases h2 : kindE e = 2
  · cases e with
    | mk k t n lo hi ks =>
      simp only [kindE] at h2
      subst h2
      have ho := right_own he
      unfold own at ho
      rw [if_pos (by omega)] at ho
      simp only [Bool.and_eq_true, decide_eq_true_eq] at ho
      obtain ⟨⟨⟨⟨rfl, rfl⟩, rfl⟩, rfl⟩, hlen⟩ := ho
      simp only [kidsE] at hkr hkk hg
      match ks, hlen with
      | x :: ks, hlen =>
        have hrep : ∀ y ∈ x :: ks, ∀ r', StopE r' → repeated (elementG grp) (wrapB (inL [1, 2] (kindE y)) (text y) ++ r') = .ok y r' := fun y hy r' hr' => by
          obtain ⟨dy, hd⟩ := hkr y hy
          exact rep_inner hd (fun z hz => (hkk y hy z hz).1) (fun z hz => (hkk y hy z hz).2) (hg y hy) hr'
        have hhd : ∀ y ∈ x :: ks, ∃ c l, wrapB (inL [1, 2] (kindE y)) (text y) = c :: l ∧ Beg c = true := fun y hy => by
          obtain ⟨dy, hd⟩ := hkr y hy
          exact wrap_head (text_head dy y hd)
        rw [text, if_neg (by omega), if_pos rfl, textsL_map, List.map_cons, Lib.join_cons, List.append_assoc]
        unfold row
        rw [hrep x (by simp) _ (tail_stopE ⟨[], rfl⟩ hr.e)]
        simp only [Res.bind]
        rw [rowL_back (W := fun y => wrapB (inL [1, 2] (kindE y)) (text y)) hr ks [x] _ (fun y hy => hrep y (by simp [hy])) (fun y hy => hhd y (by simp [hy])) (by
          have := joinTail_len (sep := [32]) (by simp) (ks.map fun y => wrapB (inL [1, 2] (kindE y)) (text y))
          rw [List.length_map] at this
          rw [List.length_append]; omega)]
        rw [List.cons_append, List.nil_append, some_2 _ hlen]
  · unfold row
    rw [rep_back he (fun h => h.elim hk h2) hkr hg hr.e]
    simp only [Res.bind]
    rw [row_stop hr]
    rfl
/-- Ways. -/
theorem ways_back1 {grp : Nat → List UInt8 → Res Rd.Expr} {e : Rd.Expr} {d : Nat} (he : right d e = true) (hkr : ∀ x ∈ kidsE e, ∃ d, right d x = true) (hkk : ∀ x ∈ kidsE e, ∀ y ∈ kidsE x, (∃ d, right d y = true) ∧ GrpOk grp y) (hkkk : ∀ x ∈ kidsE e, ∀ y ∈ kidsE x, ∀ z ∈ kidsE y, (∃ d, right d z = true) ∧ GrpOk grp z) (hg : ∀ x ∈ kidsE e, GrpOk grp x) {r : List UInt8} (hr : StopW r) :
    waysG (row (repeated (elementG grp))) (text e ++ r) = .ok e r := by
  by_cases h1 : kindE e = 1
  · cases e with
    | mk k t n lo hi ks =>
      simp only [kindE] at h1
      subst h1
      have ho := right_own he
      unfold own at ho
      rw [if_pos (by omega)] at ho
      simp only [Bool.and_eq_true, decide_eq_true_eq] at ho
      obtain ⟨⟨⟨⟨rfl, rfl⟩, rfl⟩, rfl⟩, hlen⟩ := ho
      simp only [kidsE] at hkr hkk hkkk hg
      match ks, hlen with
      | x :: ks, hlen =>
        have hrow : ∀ y ∈ x :: ks, ∀ r', StopR r' → row (repeated (elementG grp)) (wrapB (inL [1] (kindE y)) (text y) ++ r') = .ok y r' := fun y hy r' hr' => by
          obtain ⟨dy, hd⟩ := hkr y hy
          cases hi' : inL [1] (kindE y) with
          | true =>
            rw [show wrapB true (text y) ++ r' = 40 :: (text y ++ 41 :: r') by simp [wrapB]]
            unfold row
            rw [rep_group (hg y hy) r']
            simp only [Res.bind]
            rw [row_stop hr']
            rfl
          | false =>
            have hk : ¬ kindE y = 1 := by intro h; rw [h] at hi'; simp [inL] at hi'
            have := row_back (grp := grp) hd hk (fun z hz => (hkk y hy z hz).1) (fun z hz w hw => hkkk y hy z hz w hw) (fun z hz => (hkk y hy z hz).2) hr'
            simpa [wrapB] using this
        have hhd : ∀ y ∈ x :: ks, ∃ c l, wrapB (inL [1] (kindE y)) (text y) = c :: l ∧ Beg c = true := fun y hy => by
          obtain ⟨dy, hd⟩ := hkr y hy
          exact wrap_head (text_head dy y hd)
        rw [text, if_pos rfl, textsL_map, List.map_cons, Lib.join_cons, List.append_assoc]
        unfold waysG
        have hs : StopR (Lib.joinTail [32, 47, 32] (ks.map fun y => wrapB (inL [1] (kindE y)) (text y)) ++ r) := by
          cases ks with
          | nil => exact .inl (by simpa [Lib.joinTail] using hr)
          | cons y ks => exact .inr ⟨32 :: (wrapB (inL [1] (kindE y)) (text y) ++ (Lib.joinTail [32, 47, 32] (ks.map fun y => wrapB (inL [1] (kindE y)) (text y)) ++ r)), by simp [Lib.joinTail]⟩
        rw [hrow x (by simp) _ hs]
        simp only [Res.bind]
        rw [waysL_back (W := fun y => wrapB (inL [1] (kindE y)) (text y)) hr ks [x] _ (fun y hy => hrow y (by simp [hy])) (fun y hy => hhd y (by simp [hy])) (by
          have := joinTail_len (sep := [32, 47, 32]) (by simp) (ks.map fun y => wrapB (inL [1] (kindE y)) (text y))
          rw [List.length_map] at this
          rw [List.length_append]; omega)]
        rw [List.cons_append, List.nil_append, some_2 _ hlen]
  · unfold waysG
    rw [row_back he h1 hkr hkk hg (.inl hr)]
    simp only [Res.bind]
    rw [ways_stop hr]
    rfl
theorem kids_right {d : Nat} {e : Rd.Expr} (h : right (d + 1) e = true) : ∀ x ∈ kidsE e, right d x = true := by
  cases e with
  | mk k t n lo hi ks =>
    simp only [right, Bool.and_eq_true, List.all_eq_true] at h
    exact h.1
theorem kids_none {e : Rd.Expr} (h : right 0 e = true) : kidsE e = [] := by
  cases e with
  | mk k t n lo hi ks =>
    simp only [right, Bool.and_eq_true, List.isEmpty_iff] at h
    exact h.1
theorem group_ok {k : Nat} {x : Rd.Expr} {d : Nat} (hx : right d x = true) (h : ∀ r, StopW r → Rd.ways k (text x ++ r) = .ok x r) : GrpOk (group (Rd.ways k)) x := fun r => by
  obtain ⟨c, l, e, hc⟩ := text_head d x hx
  have h1 := h (41 :: r) (.inr (.inl ⟨r, rfl⟩))
  have h2 := h (93 :: r) (.inr (.inr (.inl ⟨r, rfl⟩)))
  have r1 : room (41 :: r) = 41 :: r := room_self (by decide) (by decide) (by decide) (by decide)
  have r2 : room (93 :: r) = 93 :: r := room_self (by decide) (by decide) (by decide) (by decide)
  constructor
  · unfold group
    simp only [List.drop_succ_cons, List.drop_zero]
    rw [e] at h1 ⊢
    simp only [List.cons_append] at h1 ⊢
    rw [room_beg hc, h1]
    simp only [Res.bind, r1, headIs]
    rfl
  · unfold group
    simp only [List.drop_succ_cons, List.drop_zero]
    rw [e] at h2 ⊢
    simp only [List.cons_append] at h2 ⊢
    rw [room_beg hc, h2]
    simp only [Res.bind, r2, headIs]
    rfl
theorem right_up : ∀ (d : Nat) {e : Rd.Expr}, right d e = true → right (d + 1) e = true
  | 0, .mk k t n lo hi ks, h => by
    simp only [right, Bool.and_eq_true, List.isEmpty_iff] at h
    obtain ⟨rfl, h⟩ := h
    simpa [right] using h
  | d + 1, .mk k t n lo hi ks, h => by
    simp only [right, Bool.and_eq_true, List.all_eq_true] at h ⊢
    exact ⟨fun x hx => by
      have := right_up d (h.1 x hx)
      simpa [right] using this, h.2⟩
theorem ways_back : ∀ (k d : Nat) {e : Rd.Expr}, d ≤ k → right d e = true → ∀ r, StopW r → Rd.ways k (text e ++ r) = .ok e r
  | 0, d, e, hd, he, r, hr => by
    obtain rfl : d = 0 := by omega
    have hn := kids_none he
    rw [Rd.ways]
    exact ways_back1 he (by rw [hn]; simp) (by rw [hn]; simp) (by rw [hn]; simp) (by rw [hn]; simp) hr
  | k + 1, d, e, hd, he, r, hr => by
    obtain ⟨d', hd', he'⟩ : ∃ d', d' ≤ k ∧ right (d' + 1) e = true := by
      cases d with
      | zero => exact ⟨0, by omega, right_up 0 he⟩
      | succ d => exact ⟨d, by omega, he⟩
    have g1 : ∀ x, right d' x = true → GrpOk (group (Rd.ways k)) x := fun x hx => group_ok hx (ways_back k d' hd' hx)
    have down : ∀ x, right d' x = true → ∀ y ∈ kidsE x, right d' y = true := fun x hx y hy => by
      cases d' with
      | zero => rw [kids_none hx] at hy; simp at hy
      | succ d' => exact right_up d' (kids_right hx y hy)
    have hk := kids_right he'
    rw [Rd.ways]
    exact ways_back1 he' (fun x hx => ⟨_, hk x hx⟩) (fun x hx y hy => ⟨⟨_, down x (hk x hx) y hy⟩, g1 y (down x (hk x hx) y hy)⟩)
      (fun x hx y hy z hz => ⟨⟨_, down y (down x (hk x hx) y hy) z hz⟩, g1 z (down y (down x (hk x hx) y hy) z hz)⟩) (fun x hx => g1 x (hk x hx)) hr
end Go.Te
end

section
/- What is told is read as it was: rules. -/
namespace Go.Te
open Go.Rd
set_option linter.unusedSimpArgs false

theorem rule_back {x : Rd.Line} (h : lineOk x = true) {r : List UInt8} (hr : ∀ d m, r = d :: m → isBlank d = false) : Rd.rule (lineT x ++ r) = .ok x r := by
  simp only [lineOk, Bool.and_eq_true] at h
  obtain ⟨hn, he⟩ := h
  obtain ⟨nm, more, e⟩ := x
  simp only at hn he
  obtain ⟨c, l, ht, hc⟩ := text_head 50 e he
  have hw := ways_back 50 50 (Nat.le_refl _) he (10 :: r) (.inr (.inr (.inr ⟨r, rfl, hr⟩)))
  have hs : StopW (10 :: r) := .inr (.inr (.inr ⟨r, rfl, hr⟩))
  have he1 : endN (10 :: r) = some 1 := by
    unfold endN endRest
    simp [headIs]
  have r61 : ∀ q, room (32 :: 61 :: q) = 61 :: q := fun q => room_sp (room_self (by decide) (by decide) (by decide) (by decide))
  cases more with
  | false =>
    have e0 : lineT ⟨nm, false, e⟩ ++ r = nm ++ (32 :: 61 :: 32 :: (text e ++ 10 :: r)) := by simp [lineT]
    have hb := name_back hn (r := 32 :: 61 :: 32 :: (text e ++ 10 :: r)) (fun d m e' => by injection e' with e' _; subst e'; decide)
    rw [e0]
    unfold Rd.rule
    rw [hb]
    simp only [Res.bind, r61]
    rw [ht] at hw ⊢
    simp only [List.cons_append] at hw ⊢
    rw [show headIs (61 :: 32 :: c :: (l ++ 10 :: r)) 61 = true from rfl]
    simp only [if_true, List.drop_succ_cons, List.drop_zero]
    rw [show headIs (32 :: c :: (l ++ 10 :: r)) 47 = false from rfl]
    simp only [Bool.false_eq_true, if_false]
    rw [room_sp (room_beg hc), hw]
    simp only [Res.bind, room_stop hs, he1]
    rfl
  | true =>
    have e0 : lineT ⟨nm, true, e⟩ ++ r = nm ++ (32 :: 61 :: 47 :: 32 :: (text e ++ 10 :: r)) := by simp [lineT]
    have hb := name_back hn (r := 32 :: 61 :: 47 :: 32 :: (text e ++ 10 :: r)) (fun d m e' => by injection e' with e' _; subst e'; decide)
    rw [e0]
    unfold Rd.rule
    rw [hb]
    simp only [Res.bind, r61]
    rw [ht] at hw ⊢
    simp only [List.cons_append] at hw ⊢
    rw [show headIs (61 :: 47 :: 32 :: c :: (l ++ 10 :: r)) 61 = true from rfl]
    simp only [if_true, List.drop_succ_cons, List.drop_zero]
    rw [show headIs (47 :: 32 :: c :: (l ++ 10 :: r)) 47 = true from rfl]
    simp only [if_true]
    rw [room_sp (room_beg hc), hw]
    simp only [Res.bind, room_stop hs, he1]
    rfl
theorem line_head {x : Rd.Line} (h : lineOk x = true) : ∃ c l, lineT x = c :: l ∧ 97 ≤ c.toNat ∧ c.toNat ≤ 122 := by
  simp only [lineOk, Bool.and_eq_true] at h
  obtain ⟨c, l, e, h1, h2⟩ := name_head h.1
  unfold lineT
  rw [e]
  exact ⟨c, _, rfl, h1, h2⟩
theorem rulesL_back : ∀ (ms l : List Rd.Line) (n : Nat), ms.all lineOk = true → ms.length ≤ n → l.length + ms.length ≤ 500 → rulesL n l ((ms.map lineT).flatten) = .ok (l ++ ms) []
  | [], l, n, _, _, _ => by cases n <;> simp [rulesL]
  | x :: ms, l, n, h, hn, hl => by
    obtain ⟨n, rfl⟩ : ∃ m, n = m + 1 := ⟨n - 1, by simp at hn; omega⟩
    simp only [List.all_cons, Bool.and_eq_true] at h
    obtain ⟨c, q, e, c1, c2⟩ := line_head h.1
    have hr : ∀ d m, (ms.map lineT).flatten = d :: m → isBlank d = false := fun d m e' => by
      cases ms with
      | nil => simp at e'
      | cons y ms =>
        simp only [List.all_cons, Bool.and_eq_true] at h
        obtain ⟨c', q', e2, d1, d2⟩ := line_head h.2.1
        rw [List.map_cons, List.flatten_cons, e2, List.cons_append] at e'
        injection e' with e' _
        subst e'
        simp only [isBlank, Bool.or_eq_false_iff, beq_eq_false_iff_ne]
        omega
    have hb := rule_back h.1 hr
    rw [List.map_cons, List.flatten_cons]
    rw [e] at hb ⊢
    simp only [List.cons_append] at hb ⊢
    have hbl : isBlank c = false := by
      simp only [isBlank, Bool.or_eq_false_iff, beq_eq_false_iff_ne]
      omega
    have he : endN (c :: (q ++ (ms.map lineT).flatten)) = none := by
      unfold endN endRest
      have n1 : ¬ c.toNat = 59 := by omega
      have n2 : ¬ c.toNat = 10 := by omega
      have n3 : ¬ c.toNat = 13 := by omega
      simp [headIs, n1, n2, n3]
    rw [rulesL]
    simp only [List.dropWhile_cons, hbl, Bool.false_eq_true, if_false, he, hb, Res.bind]
    simp only [List.length_cons] at hl hn
    rw [if_pos (by omega), rulesL_back ms (l ++ [x]) n h.2 (by omega) (by simp; omega)]
    simp
theorem lines_count : ∀ ms : List Rd.Line, ms.length ≤ ((ms.map lineT).flatten).length
  | [] => by simp
  | x :: ms => by
    have := lines_count ms
    simp only [List.map_cons, List.flatten_cons, List.length_append, List.length_cons]
    have : 1 ≤ (lineT x).length := by unfold lineT; simp; omega
    omega
/-- What is told is read as it was. -/
theorem read_tell {ms : List Rd.Line} (h : ms.all lineOk = true) (hl : ms.length ≤ 500) (hb : (tell ms).1.length ≤ 50000) : Rd.read (tell ms).1 = (ms, 0) := by
  have e : tell ms = ((ms.map lineT).flatten, 0) := by unfold tell; rw [if_pos h]
  rw [e] at hb ⊢
  unfold Rd.read
  simp only at hb ⊢
  rw [if_neg (by omega), rulesL_back ms [] _ h (lines_count ms) (by simp; omega)]
  rfl
end Go.Te
end

