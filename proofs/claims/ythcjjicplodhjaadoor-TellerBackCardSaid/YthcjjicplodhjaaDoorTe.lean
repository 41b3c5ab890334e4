/- Te: a part of the proof that each law of this seat answers true at every input. No condition. -/
import Derived.Test.YthcjjicplodhjaaDoorRd
import Derived.Lib.ItoaNum
import Derived.Lib.Join
import Derived.Lib.Case
set_option linter.unusedVariables false
set_option linter.unusedSimpArgs false
set_option maxRecDepth 20000
section
/- Rules as texts: what the program's teller does, in plain words. -/
namespace Go.Te
def letter (c : UInt8) : Bool := decide (97 ≤ c.toNat) && decide (c.toNat ≤ 122)
def digit (c : UInt8) : Bool := decide (48 ≤ c.toNat) && decide (c.toNat ≤ 57)
def part (c : UInt8) : Bool := letter c || digit c || c.toNat == 45
def name (s : List UInt8) : Bool :=
  match s with
  | [] => false
  | c :: _ => decide (s.length ≤ 40) && letter c && s.all part
def foldC (c : UInt8) : Bool := decide (32 ≤ c.toNat) && decide (c.toNat ≤ 126) && !(c.toNat == 34) && !(decide (65 ≤ c.toNat) && decide (c.toNat ≤ 90))
def fold (s : List UInt8) : Bool := s.all foldC
end Go.Te
namespace Go.Te
open Go.Rd
def numC (n : Int) : Bool := decide (0 ≤ n) && decide (n ≤ 1114111)
def nums (l : List Int) (least most : Nat) : Bool := l.all numC && (decide (least ≤ l.length) && decide (l.length ≤ most))
/-- What an expression must be by itself; c: how many stand in it. -/
def own (k : Int) (t : List UInt8) (n : List Int) (lo hi : Int) (c : Nat) : Bool :=
  if k = 1 ∨ k = 2 then decide (t = []) && decide (n = []) && decide (lo = 0) && decide (hi = 0) && decide (1 < c)
  else if k = 3 then decide (t = []) && decide (n = []) && decide (c = 1) && decide (0 ≤ lo) && decide (lo ≤ 200) && decide (hi ≤ 200) && decide (-1 ≤ hi) && (decide (hi < 0) || decide (lo ≤ hi))
  else if k = 4 then decide (n = []) && decide (lo = 0) && decide (hi = 0) && decide (c = 0) && name t
  else if k = 5 then decide (n = []) && decide (lo = 0) && decide (hi = 0) && decide (c = 0) && fold t
  else if k = 6 then decide (t = []) && decide (lo = 0) && decide (hi = 0) && decide (c = 0) && nums n 1 10000
  else if k = 7 then decide (t = []) && decide (lo = 0) && decide (hi = 0) && decide (c = 0) && nums n 2 2 && (match n with
    | [a, b] => decide (a ≤ b)
    | _ => false)
  else false
/-- d: how many may stand in one another. -/
def right : Nat → Rd.Expr → Bool
  | 0, .mk k t n lo hi ks => ks.isEmpty && own k t n lo hi 0
  | d + 1, .mk k t n lo hi ks => ks.all (right d) && own k t n lo hi ks.length
end Go.Te
namespace Go.Rd
/-- No text and no list is longer than Go lets one be. -/
inductive Expr.Fit : Expr → Prop
  | mk {k : Int} {t : List UInt8} {n : List Int} {lo hi : Int} {ks : List Expr} : t.length ≤ 9223372036854775807 → n.length ≤ 9223372036854775807 → ks.length ≤ 9223372036854775807 → (∀ x ∈ ks, Expr.Fit x) → Expr.Fit (.mk k t n lo hi ks)
end Go.Rd
namespace Go.Te
/-- As 'own', but for how many stand in it. -/
def own1 (k : Int) (t : List UInt8) (n : List Int) (lo hi : Int) : Bool :=
  if k = 1 ∨ k = 2 then decide (t = []) && decide (n = []) && decide (lo = 0) && decide (hi = 0)
  else if k = 3 then decide (t = []) && decide (n = []) && decide (0 ≤ lo) && decide (lo ≤ 200) && (decide (hi = -1) || (decide (lo ≤ hi) && decide (hi ≤ 200)))
  else if k = 4 then decide (n = []) && decide (lo = 0) && decide (hi = 0) && name t
  else if k = 5 then decide (n = []) && decide (lo = 0) && decide (hi = 0) && fold t
  else if k = 6 then decide (t = []) && decide (lo = 0) && decide (hi = 0) && nums n 1 10000
  else if k = 7 then decide (t = []) && decide (lo = 0) && decide (hi = 0) && nums n 2 2 && (match n with
    | [a, b] => decide (a ≤ b)
    | _ => false)
  else false
def least (k : Int) : Int := if k = 1 ∨ k = 2 then 2 else if k = 3 then 1 else 0
def most (k : Int) : Int := if k = 1 ∨ k = 2 then -1 else if k = 3 then 1 else 0
end Go.Te
end

section
/- Rules as texts: the texts. -/
namespace Go.Te
open Go.Rd
/-- A digit, large. -/
def hexC (n : Nat) : UInt8 := if n < 10 then UInt8.ofNat (48 + n) else UInt8.ofNat (55 + n)
def lowC (n : Nat) : UInt8 := if n < 10 then UInt8.ofNat (48 + n) else UInt8.ofNat (87 + n)
def low (n : Nat) : List UInt8 := if h : n < 16 then [lowC n] else low (n / 16) ++ [lowC (n % 16)]
termination_by n
decreasing_by omega
/-- A number to the base 16, two digits at least. -/
def hex (n : Nat) : List UInt8 := if n < 256 then [hexC (n / 16 % 16), hexC (n % 16)] else if n < 4096 then hexC (n / 256) :: [hexC (n / 16 % 16), hexC (n % 16)] else hex (n / 256) ++ [hexC (n / 16 % 16), hexC (n % 16)]
termination_by n
decreasing_by omega
def pad (s : List UInt8) : List UInt8 := if s.length < 2 then 48 :: s else s
theorem low_small {n : Nat} (h : n < 16) : low n = [lowC n] := by rw [low, dif_pos h]
theorem low_big {n : Nat} (h : ¬ n < 16) : low n = low (n / 16) ++ [lowC (n % 16)] := by rw [low, dif_neg h]
theorem low_ne (n : Nat) : low n ≠ [] := by
  by_cases h : n < 16
  · rw [low_small h]; simp
  · rw [low_big h]; simp
theorem upper_lowC : ∀ n : Nat, n < 16 → Lib.upperB (lowC n) = hexC n := by decide
theorem lowC_ascii : ∀ n : Nat, n < 16 → (lowC n).toNat < 128 := by decide
def up (n : Nat) : List UInt8 := Lib.toUpperA (low n)
theorem up_small {n : Nat} (h : n < 16) : up n = [hexC n] := by unfold up; rw [low_small h]; simp [Lib.toUpperA, upper_lowC n h]
theorem up_big {n : Nat} (h : ¬ n < 16) : up n = up (n / 16) ++ [hexC (n % 16)] := by
  unfold up; rw [low_big h]
  simp only [Lib.toUpperA, List.map_append, List.map_cons, List.map_nil, upper_lowC (n % 16) (by omega)]
theorem up_ne (n : Nat) : up n ≠ [] := by unfold up Lib.toUpperA; simpa using low_ne n
theorem up_two {n : Nat} (h : ¬ n < 16) : ¬ (up n).length < 2 := by
  rw [up_big h]
  have := up_ne (n / 16)
  cases hu : up (n / 16) with
  | nil => exact absurd hu this
  | cons a s => simp
theorem pad_up (n : Nat) : pad (up n) = hex n := by
  induction n using Nat.strongRecOn with
  | _ n ih =>
    by_cases h : n < 16
    · have e1 : n / 16 % 16 = 0 := by omega
      have e2 : n % 16 = n := by omega
      rw [up_small h, hex, if_pos (by omega), e1, e2]
      rfl
    · unfold pad
      rw [if_neg (up_two h), up_big h]
      by_cases h2 : n < 256
      · rw [up_small (by omega), hex, if_pos h2, Nat.mod_eq_of_lt (show n / 16 < 16 by omega)]
        rfl
      · rw [up_big (show ¬ n / 16 < 16 by omega), hex, if_neg h2, Nat.div_div_eq_div_mul]
        by_cases h3 : n < 4096
        · rw [if_pos h3, up_small (by omega)]; rfl
        · rw [if_neg h3]
          have := ih (n / 256) (by omega)
          rw [← this]
          unfold pad
          rw [if_neg (up_two (by omega))]
          simp
theorem low_ascii (n : Nat) : ∀ b ∈ low n, b.toNat < 128 := by
  induction n using Nat.strongRecOn with
  | _ n ih =>
    by_cases h : n < 16
    · rw [low_small h]; intro b hb; simp at hb; subst hb; exact lowC_ascii n h
    · rw [low_big h]
      intro b hb
      rcases List.mem_append.1 hb with hb | hb
      · exact ih (n / 16) (by omega) b hb
      · simp at hb; subst hb; exact lowC_ascii _ (by omega)
theorem low_len (n : Nat) : ∀ m, n < 16 ^ m → 0 < m → (low n).length ≤ m := by
  induction n using Nat.strongRecOn with
  | _ n ih =>
    intro m hn hm
    by_cases h : n < 16
    · rw [low_small h]; simp; omega
    · rw [low_big h]
      obtain ⟨m, rfl⟩ : ∃ k, m = k + 1 := ⟨m - 1, by omega⟩
      have h0 : 0 < m := by
        rcases Nat.eq_zero_or_pos m with h0 | h0
        · subst h0; simp at hn; omega
        · exact h0
      have := ih (n / 16) (by omega) m (by rw [Nat.pow_succ] at hn; exact Nat.div_lt_of_lt_mul (by omega)) h0
      simp; omega
end Go.Te
end

section
/- Rules as texts: expressions, lines. -/
namespace Go.Te
open Go.Rd
def kindE : Rd.Expr → Int
  | .mk k _ _ _ _ _ => k
def often (lo hi : Int) : List UInt8 := if hi = 0 then [48] else (if 0 < lo then Lib.itoa lo else []) ++ (if hi = lo then [] else 42 :: (if 0 ≤ hi then Lib.itoa hi else []))
def numbers (n : List Int) (sep : List UInt8) : List UInt8 := [37, 120] ++ Lib.join (n.map fun x => hex x.toNat) sep
def wrapB (b : Bool) (s : List UInt8) : List UInt8 := if b then 40 :: (s ++ [41]) else s
def inL (b : List Int) (k : Int) : Bool := b.any fun x => decide (x = k)
mutual
def text : Rd.Expr → List UInt8
  | .mk k t n lo hi ks =>
    if k = 1 then Lib.join (textsL [1] ks) [32, 47, 32]
    else if k = 2 then Lib.join (textsL [1, 2] ks) [32]
    else if k = 3 then (if lo = 0 ∧ hi = 1 then 91 :: ((textsL [] ks).headD [] ++ [93]) else often lo hi ++ (textsL [1, 2, 3] ks).headD [])
    else if k = 4 then t
    else if k = 5 then 34 :: (t ++ [34])
    else if k = 6 then numbers n [46]
    else numbers n [45]
def textsL (b : List Int) : List Rd.Expr → List (List UInt8)
  | [] => []
  | e :: l => wrapB (inL b (kindE e)) (text e) :: textsL b l
end
theorem textsL_map (b : List Int) : ∀ l : List Rd.Expr, textsL b l = l.map fun e => wrapB (inL b (kindE e)) (text e)
  | [] => rfl
  | e :: l => by rw [textsL, textsL_map b l]; rfl
/-- A rule's line. -/
def lineT (x : Rd.Line) : List UInt8 := x.name ++ (if x.more then [32, 61, 47, 32] else [32, 61, 32]) ++ text x.expr ++ [10]
def lineOk (x : Rd.Line) : Bool := name x.name && right 50 x.expr
/-- Rules as a text, or an error's number. -/
def tell (l : List Rd.Line) : List UInt8 × Int := if l.all lineOk then ((l.map lineT).flatten, 0) else ([], 1)

theorem joinTail_mem {sep : List UInt8} : ∀ {r : List (List UInt8)} {x : List UInt8}, x ∈ r → x.length ≤ (Lib.joinTail sep r).length
  | [], x, h => by simp at h
  | y :: r, x, h => by
    simp only [Lib.joinTail, List.map_cons, List.flatten_cons, List.length_append]
    rcases List.mem_cons.1 h with rfl | h
    · omega
    · have := joinTail_mem (sep := sep) h
      simp only [Lib.joinTail] at this
      omega
theorem join_mem {sep : List UInt8} {l : List (List UInt8)} {x : List UInt8} (h : x ∈ l) : x.length ≤ (Lib.join l sep).length := by
  cases l with
  | nil => simp at h
  | cons y r =>
    rw [Lib.join_cons, List.length_append]
    rcases List.mem_cons.1 h with rfl | h
    · omega
    · have := joinTail_mem (sep := sep) h; omega
theorem joinTail_len {sep : List UInt8} (hs : 0 < sep.length) : ∀ r : List (List UInt8), r.length ≤ (Lib.joinTail sep r).length
  | [] => by simp
  | y :: r => by
    have := joinTail_len hs r
    simp only [Lib.joinTail, List.map_cons, List.flatten_cons, List.length_append, List.length_cons] at this ⊢
    omega
theorem join_len {sep : List UInt8} (hs : 0 < sep.length) (l : List (List UInt8)) : l.length ≤ (Lib.join l sep).length + 1 := by
  cases l with
  | nil => simp
  | cons y r => rw [Lib.join_cons, List.length_append, List.length_cons]; have := joinTail_len hs r; omega
theorem wrapB_len (b : Bool) (s : List UInt8) : s.length ≤ (wrapB b s).length := by unfold wrapB; split <;> simp <;> omega
theorem textsL_mem {b : List Int} {l : List Rd.Expr} {x : Rd.Expr} (h : x ∈ l) : ∃ s ∈ textsL b l, (text x).length ≤ s.length := by
  rw [textsL_map]
  exact ⟨_, List.mem_map.2 ⟨x, h, rfl⟩, wrapB_len _ _⟩
theorem textsL_length (b : List Int) (l : List Rd.Expr) : (textsL b l).length = l.length := by rw [textsL_map]; simp
end Go.Te
end

section
/- Rules as texts: how much there is in rules, and how long their texts are. -/
namespace Go.Te
open Go.Rd
set_option linter.unusedSimpArgs false
mutual
def wE : Rd.Expr → Nat
  | .mk _ t n _ _ ks => 1 + t.length + n.length + wEs ks
def wEs : List Rd.Expr → Nat
  | [] => 0
  | e :: l => wE e + wEs l
end
def wL (x : Rd.Line) : Nat := 1 + x.name.length + wE x.expr
def wLs : List Rd.Line → Nat
  | [] => 0
  | x :: l => wL x + wLs l
theorem wE_pos (e : Rd.Expr) : 1 ≤ wE e := by cases e; simp only [wE]; omega
theorem wEs_len : ∀ l : List Rd.Expr, l.length ≤ wEs l
  | [] => by simp [wEs]
  | e :: l => by have := wEs_len l; have := wE_pos e; simp only [wEs, List.length_cons]; omega
theorem wEs_mem : ∀ {l : List Rd.Expr} {x : Rd.Expr}, x ∈ l → wE x ≤ wEs l
  | [], x, h => by simp at h
  | y :: l, x, h => by
    simp only [wEs]
    rcases List.mem_cons.1 h with rfl | h
    · omega
    · have := wEs_mem h; omega
theorem wLs_len : ∀ l : List Rd.Line, l.length ≤ wLs l
  | [] => by simp [wLs]
  | e :: l => by have := wLs_len l; simp only [wLs, wL, List.length_cons]; omega
theorem wLs_mem : ∀ {l : List Rd.Line} {x : Rd.Line}, x ∈ l → wL x ≤ wLs l
  | [], x, h => by simp at h
  | y :: l, x, h => by
    simp only [wLs]
    rcases List.mem_cons.1 h with rfl | h
    · omega
    · have := wLs_mem h; omega
theorem fit_of : ∀ (e : Rd.Expr), wE e ≤ 9223372036854775807 → e.Fit
  | .mk k t n lo hi ks, h => by
    simp only [wE] at h
    have := wEs_len ks
    exact .mk (by omega) (by omega) (by omega) fun x hx => fit_of x (by have := wEs_mem hx; omega)

theorem hex_len (n : Nat) (h : n ≤ 1114111) : (hex n).length ≤ 6 := by
  rw [hex]
  split
  · simp
  · split
    · simp
    · rw [hex]
      split
      · simp
      · split
        · simp
        · rw [hex, if_pos (by omega)]; simp
theorem joinTail_le {sep : List UInt8} : ∀ {l : List (List UInt8)} {b : Nat}, (∀ s ∈ l, s.length ≤ b) → (Lib.joinTail sep l).length ≤ l.length * (sep.length + b)
  | [], b, h => by simp [Lib.joinTail]
  | x :: l, b, h => by
    have := joinTail_le (sep := sep) (l := l) (b := b) fun s hs => h s (by simp [hs])
    have hx := h x (by simp)
    simp only [Lib.joinTail, List.map_cons, List.flatten_cons, List.length_append, List.length_cons] at this ⊢
    rw [Nat.succ_mul]
    omega
theorem nums_len {n : List Int} {c : UInt8} (hn : n.all numC = true) : (numbers n [c]).length ≤ 2 + 7 * n.length := by
  unfold numbers
  have hs : ∀ s ∈ n.map (fun x => hex x.toNat), s.length ≤ 6 := fun s hs => by
    obtain ⟨x, hx, rfl⟩ := List.mem_map.1 hs
    have := List.all_eq_true.1 hn x hx
    simp only [numC, Bool.and_eq_true, decide_eq_true_eq] at this
    exact hex_len _ (by omega)
  rw [List.length_append]
  cases n with
  | nil => simp [Lib.join_nil]
  | cons x n =>
    rw [List.map_cons] at hs ⊢
    rw [Lib.join_cons, List.length_append]
    have h1 := hs _ (List.mem_cons_self)
    have h2 := joinTail_le (sep := [c]) (l := n.map fun x => hex x.toNat) (b := 6) fun s h => hs s (List.mem_cons_of_mem _ h)
    simp only [List.length_map, List.length_cons, List.length_nil] at h2 ⊢
    omega
theorem wrapB_le (b : Bool) (s : List UInt8) : (wrapB b s).length ≤ s.length + 2 := by unfold wrapB; split <;> simp
theorem often_le {lo hi : Int} (h0 : 0 ≤ lo) (h1 : lo ≤ 200) (h2 : hi ≤ 200) (hd : ∀ n : Int, 0 ≤ n → n ≤ 200 → (Lib.itoa n).length ≤ 3) : (often lo hi).length ≤ 7 := by
  unfold often
  split
  · simp
  · rw [List.length_append]
    have a1 : (if 0 < lo then Lib.itoa lo else []).length ≤ 3 := by
      split
      · exact hd _ h0 h1
      · simp
    have a2 : (if hi = lo then [] else 42 :: (if 0 ≤ hi then Lib.itoa hi else [])).length ≤ 4 := by
      split
      · simp
      · rw [List.length_cons]
        split
        · rename_i hp; have := hd _ hp h2; omega
        · simp
    omega
theorem texts_le {b : List Int} : ∀ {l : List Rd.Expr}, (∀ x ∈ l, (text x).length + 5 ≤ 17 * wE x) → ∀ sep : List UInt8, sep.length ≤ 3 → (Lib.joinTail sep (textsL b l)).length ≤ 17 * wEs l
  | [], h, sep, hs => by simp [Lib.joinTail, textsL, wEs]
  | x :: l, h, sep, hs => by
    have h1 := texts_le (b := b) (l := l) (fun y hy => h y (by simp [hy])) sep hs
    have h2 := h x (by simp)
    have h3 := wrapB_le (inL b (kindE x)) (text x)
    simp only [Lib.joinTail, textsL, wEs, List.map_cons, List.flatten_cons, List.length_append] at h1 ⊢
    omega
theorem text_le (hd : ∀ n : Int, 0 ≤ n → n ≤ 200 → (Lib.itoa n).length ≤ 3) : ∀ (d : Nat) (e : Rd.Expr), right d e = true → (text e).length + 5 ≤ 17 * wE e
  | d, .mk k t n lo hi ks, h => by
    have hk : ∀ x ∈ ks, (text x).length + 5 ≤ 17 * wE x := fun x hx => by
      cases d with
      | zero =>
        simp only [right, Bool.and_eq_true, List.isEmpty_iff] at h
        rw [h.1] at hx; simp at hx
      | succ d =>
        simp only [right, Bool.and_eq_true, List.all_eq_true] at h
        exact text_le hd d x (h.1 x hx)
    have ho : own k t n lo hi ks.length = true := by
      cases d with
      | zero =>
        simp only [right, Bool.and_eq_true, List.isEmpty_iff] at h
        rw [h.1]; exact h.2
      | succ d =>
        simp only [right, Bool.and_eq_true] at h
        exact h.2
    have hj : ∀ (b : List Int) (sep : List UInt8), sep.length ≤ 3 → (Lib.join (textsL b ks) sep).length ≤ 17 * wEs ks := fun b sep hs => by
      cases ks with
      | nil => simp [textsL, Lib.join_nil, wEs]
      | cons x ks =>
        have h1 := texts_le (b := b) (l := ks) (fun y hy => hk y (by simp [hy])) sep hs
        have h2 := hk x (by simp)
        have h3 := wrapB_le (inL b (kindE x)) (text x)
        rw [textsL, Lib.join_cons, List.length_append]
        simp only [wEs]
        omega
    have hh : ∀ b : List Int, ((textsL b ks).headD []).length ≤ 17 * wEs ks + 2 := fun b => by
      cases ks with
      | nil => simp [textsL]
      | cons x ks =>
        have h2 := hk x (by simp)
        have h3 := wrapB_le (inL b (kindE x)) (text x)
        simp only [textsL, List.headD_cons, wEs]
        omega
    rw [text]
    simp only [wE]
    split
    · have := hj [1] [32, 47, 32] (by simp); omega
    · split
      · have := hj [1, 2] [32] (by simp); omega
      · split
        · rename_i h1 h2 h3
          subst h3
          have hh1 := hh []
          have hh2 := hh [1, 2, 3]
          simp only [own, if_neg (show ¬ ((3 : Int) = 1 ∨ (3 : Int) = 2) by omega), if_true, Bool.and_eq_true, Bool.or_eq_true, decide_eq_true_eq] at ho
          obtain ⟨⟨⟨⟨⟨⟨⟨o1, o2⟩, o3⟩, o4⟩, o5⟩, o6⟩, o7⟩, o8⟩ := ho
          obtain ⟨x, rfl⟩ := List.length_eq_one_iff.1 o3
          have := hk x (by simp)
          have h3 := wrapB_le (inL [1, 2, 3] (kindE x)) (text x)
          have h4 := wrapB_le (inL [] (kindE x)) (text x)
          have h5 := often_le o4 o5 o6 hd
          simp only [wEs, textsL, List.headD_cons]
          split
          · have e0 : wrapB (inL [] (kindE x)) (text x) = text x := by simp [wrapB, inL]
            rw [e0]
            simp only [List.length_cons, List.length_append, List.length_nil]
            omega
          · rw [List.length_append]; omega
        · split
          · omega
          · split
            · simp only [List.length_cons, List.length_append, List.length_nil]; omega
            · rename_i h1 h2 h3 h4 h5
              have hn : n.all numC = true := by
                unfold own at ho
                simp only [h1, h2, h3, h4, h5, or_self, if_false] at ho
                split at ho
                · simp only [Bool.and_eq_true, nums] at ho; exact ho.2.1
                · split at ho
                  · simp only [Bool.and_eq_true, nums] at ho; exact ho.1.2.1
                  · simp at ho
              split
              · have := nums_len (c := 46) hn; omega
              · have := nums_len (c := 45) hn; omega
  termination_by d => d

/-- The teller's loop. -/
theorem tell_cons (acc : List UInt8) (x : Rd.Line) (l : List Rd.Line) (h : lineOk x = true) : (if (x :: l).all lineOk then (acc ++ ((x :: l).map lineT).flatten, (0 : Int)) else ([], 1)) = (if l.all lineOk then ((acc ++ lineT x) ++ (l.map lineT).flatten, 0) else ([], 1)) := by
  simp [h, List.append_assoc]
theorem tell_bad (acc : List UInt8) (x : Rd.Line) (l : List Rd.Line) (h : lineOk x = false) : (if (x :: l).all lineOk then (acc ++ ((x :: l).map lineT).flatten, (0 : Int)) else ([], 1)) = ([], 1) := by
  simp [h]
theorem lineT_len (hd : ∀ n : Int, 0 ≤ n → n ≤ 200 → (Lib.itoa n).length ≤ 3) {x : Rd.Line} (h : lineOk x = true) : (lineT x).length ≤ 17 * wL x := by
  simp only [lineOk, Bool.and_eq_true] at h
  have := text_le hd 50 x.expr h.2
  unfold lineT wL
  simp only [List.length_append, List.length_cons, List.length_nil]
  split <;> simp <;> omega
end Go.Te
end

