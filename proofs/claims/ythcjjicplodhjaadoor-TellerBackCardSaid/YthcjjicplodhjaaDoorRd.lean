/- Rd: a part of the proof that each law of this seat answers true at every input. No condition. -/
set_option linter.unusedVariables false
set_option linter.unusedSimpArgs false
set_option maxRecDepth 20000
section
/- The rules of a text: what the program's reader does, in plain words. -/
namespace Go.Rd

/-- An expression. -/
inductive Expr where
  | mk (kind : Int) (text : List UInt8) (n : List Int) (min max : Int) (kids : List Expr)
  deriving Inhabited

def Expr.zero : Expr := .mk 0 [] [] 0 0 []

structure Line where
  name : List UInt8
  more : Bool
  expr : Expr

/-- An answer and what is left, or an error's number and where. -/
inductive Res (α : Type) where
  | ok (a : α) (s : List UInt8)
  | err (e : Int) (s : List UInt8)

def Res.bind {α β : Type} : Res α → (α → List UInt8 → Res β) → Res β
  | .ok a s, f => f a s
  | .err e s, _ => .err e s

def isBlank (c : UInt8) : Bool := c.toNat == 32 || c.toNat == 9
def isLetter (c : UInt8) : Bool := (decide (97 ≤ c.toNat) && decide (c.toNat ≤ 122)) || (decide (65 ≤ c.toNat) && decide (c.toNat ≤ 90))
def isDigit (c : UInt8) : Bool := decide (48 ≤ c.toNat) && decide (c.toNat ≤ 57)
def isCom (c : UInt8) : Bool := isBlank c || (decide (32 < c.toNat) && decide (c.toNat ≤ 126))
def isName (c : UInt8) : Bool := isLetter c || isDigit c || c.toNat == 45
def isQuot (c : UInt8) : Bool := decide (32 ≤ c.toNat) && decide (c.toNat ≤ 126) && !(c.toNat == 34)
def smallB (c : UInt8) : UInt8 := if 65 ≤ c.toNat ∧ c.toNat ≤ 90 then UInt8.ofNat (c.toNat + 32) else c
def small (s : List UInt8) : List UInt8 := s.map smallB

def headIs (s : List UInt8) (c : Nat) : Bool :=
  match s with
  | [] => false
  | a :: _ => a.toNat == c

/-- How long the line's end is that stands here. -/
def endRest (s : List UInt8) : List UInt8 := if headIs s 59 then (s.drop 1).dropWhile isCom else s
def endN (s : List UInt8) : Option Nat :=
  let rest := endRest s
  let comment := s.length - rest.length
  match rest with
  | [] => some comment
  | a :: r => if a.toNat = 10 then some (comment + 1) else if a.toNat = 13 ∧ headIs r 10 then some (comment + 2) else none

/-- Passes over room; n: at least as many as there are bytes. -/
def roomN : Nat → List UInt8 → List UInt8
  | 0, s => s
  | n + 1, s => match s with
    | [] => []
    | c :: r => if isBlank c then roomN n r else match endN (c :: r) with
      | none => c :: r
      | some k => if k = 0 then c :: r else match (c :: r).drop k with
        | [] => c :: r
        | d :: r' => if isBlank d then roomN n (d :: r') else c :: r
def room (s : List UInt8) : List UInt8 := roomN s.length s

def name (s : List UInt8) : Res (List UInt8) :=
  match s with
  | [] => .err 20 []
  | c :: r => if isLetter c then (if ((c :: r).takeWhile isName).length ≤ 40 then .ok (small ((c :: r).takeWhile isName)) ((c :: r).dropWhile isName) else .err 2 ((c :: r).dropWhile isName)) else .err 20 (c :: r)

def digit (c : UInt8) : Nat :=
  if isDigit c then c.toNat - 48 else if 97 ≤ c.toNat ∧ c.toNat ≤ 102 then c.toNat - 87 else if 65 ≤ c.toNat ∧ c.toNat ≤ 70 then c.toNat - 55 else 99

/-- A number: as far as one comes. -/
def numberL (base most : Nat) : Nat → Bool → List UInt8 → Res (Nat × Bool)
  | n, ok, [] => .ok (n, ok) []
  | n, ok, c :: r => if digit c < base then (if n * base + digit c ≤ most then numberL base most (n * base + digit c) true r else .err 2 (c :: r)) else .ok (n, ok) (c :: r)
def number (base most : Nat) (s : List UInt8) : Res (Nat × Bool) := numberL base most 0 false s

/-- A text in quotes; the first byte is passed over. -/
def quoted (s : List UInt8) : Res (List UInt8) :=
  if headIs ((s.drop 1).dropWhile isQuot) 34 then .ok ((s.drop 1).takeWhile isQuot) (((s.drop 1).dropWhile isQuot).drop 1) else .err 20 ((s.drop 1).dropWhile isQuot)

def fold (s : List UInt8) : Expr := .mk 5 (small s) [] 0 0 []
def exact (s : List UInt8) : Expr :=
  if s = [] then fold s else .mk 6 [] (s.map fun c => (c.toNat : Int)) 0 0 []

def value (base : Nat) (s : List UInt8) : Res Nat :=
  (number base 1114111 s).bind fun r s' => if r.2 then .ok r.1 s' else .err 20 s'

def valuesL (base : Nat) : Nat → List Int → List UInt8 → Res Expr
  | 0, l, s => .ok (.mk 6 [] l 0 0 []) s
  | n + 1, l, s => if headIs s 46 then (value base (s.drop 1)).bind fun v s' => valuesL base n (l ++ [(v : Int)]) s' else .ok (.mk 6 [] l 0 0 []) s
def values (base : Nat) (s : List UInt8) : Res Expr :=
  (value base s).bind fun a s1 => if headIs s1 45 then (value base (s1.drop 1)).bind fun b s2 => if a ≤ b then .ok (.mk 7 [] [(a : Int), (b : Int)] 0 0 []) s2 else .err 20 s2
    else valuesL base s1.length [(a : Int)] s1

def baseOf (k : Nat) : Nat := if k = 98 then 2 else if k = 100 then 10 else if k = 120 then 16 else 0

def percent (s : List UInt8) : Res Expr :=
  match s.drop 1 with
  | [] => .err 20 []
  | c :: r =>
    let k := c.toNat ||| 32
    if isLetter c ∧ (0 < baseOf k ∨ headIs r 34 ∧ (k = 105 ∨ k = 115)) then
      (if 0 < baseOf k then values (baseOf k) r else if k = 105 then (quoted r).bind fun t s' => .ok (fold t) s' else (quoted r).bind fun t s' => .ok (exact t) s')
    else .err 20 (c :: r)

section
variable (ways : List UInt8 → Res Expr)   -- what stands within brackets
def group (fin : Nat) (s : List UInt8) : Res Expr :=
  (ways (room (s.drop 1))).bind fun e s1 => if headIs (room s1) fin then .ok e ((room s1).drop 1) else .err 20 (room s1)
def elementG (grp : Nat → List UInt8 → Res Expr) (s : List UInt8) : Res Expr :=
  if headIs s 40 then grp 41 s
  else if headIs s 91 then (grp 93 s).bind fun e s' => .ok (.mk 3 [] [] 0 1 [e]) s'
  else if headIs s 34 then (quoted s).bind fun t s' => .ok (fold t) s'
  else if headIs s 37 then percent s
  else (name s).bind fun t s' => .ok (.mk 4 t [] 0 0 []) s'
end
section
variable (element : List UInt8 → Res Expr)
def repeated (s : List UInt8) : Res Expr :=
  (number 10 200 s).bind fun l s1 =>
    (if headIs s1 42 then number 10 200 (s1.drop 1) else .ok l s1).bind fun h s2 =>
      (element s2).bind fun e s3 =>
        if !l.2 && !headIs s1 42 then .ok e s3
        else if h.2 then (if l.1 ≤ h.1 then .ok (.mk 3 [] [] l.1 h.1 [e]) s3 else .err 20 s3)
        else .ok (.mk 3 [] [] l.1 (-1) [e]) s3
end
def begins (s : List UInt8) : Bool :=
  match s with
  | [] => false
  | c :: _ => isLetter c || isDigit c || c.toNat == 34 || c.toNat == 37 || c.toNat == 40 || c.toNat == 42 || c.toNat == 91
def some_ (kind : Int) (l : List Expr) : Expr :=
  match l with
  | [e] => e
  | _ => .mk kind [] [] 0 0 l
section
variable (rep : List UInt8 → Res Expr)
def rowL : Nat → List Expr → List UInt8 → Res Expr
  | 0, l, s => .ok (some_ 2 l) s
  | n + 1, l, s => if decide ((room s).length < s.length) && begins (room s) then (rep (room s)).bind fun e s' => rowL n (l ++ [e]) s' else .ok (some_ 2 l) s
def row (s : List UInt8) : Res Expr := (rep s).bind fun e s' => rowL rep s'.length [e] s'
end
section
variable (row : List UInt8 → Res Expr)
def waysL : Nat → List Expr → List UInt8 → Res Expr
  | 0, l, s => .ok (some_ 1 l) s
  | n + 1, l, s => if headIs (room s) 47 then (row (room ((room s).drop 1))).bind fun e s' => waysL n (l ++ [e]) s' else .ok (some_ 1 l) s
def waysG (s : List UInt8) : Res Expr := (row s).bind fun e s' => waysL row s'.length [e] s'
end

/-- k: how many brackets may stand in one another here. -/
def grpK (ways : Nat → List UInt8 → Res Expr) : Nat → Nat → List UInt8 → Res Expr
  | 0, _, s => .err 2 (s.drop 1)
  | k + 1, fin, s => group (ways k) fin s
def ways : Nat → List UInt8 → Res Expr
  | 0 => waysG (row (repeated (elementG fun _ s => .err 2 (s.drop 1))))
  | k + 1 => waysG (row (repeated (elementG (group (ways k)))))

def rule (s : List UInt8) : Res Line :=
  (name s).bind fun n s1 =>
    if headIs (room s1) 61 then
      let s2 := (room s1).drop 1
      let more := headIs s2 47
      let s3 := if more then s2.drop 1 else s2
      (ways 50 (room s3)).bind fun e s4 => match endN (room s4) with
        | some k => .ok ⟨n, more, e⟩ ((room s4).drop k)
        | none => .err 20 (room s4)
    else .err 20 (room s1)
def rulesL : Nat → List Line → List UInt8 → Res (List Line)
  | 0, l, s => .ok l s
  | n + 1, l, s => match s with
    | [] => .ok l []
    | c :: r => match endN ((c :: r).dropWhile isBlank) with
      | some k => rulesL n l (((c :: r).dropWhile isBlank).drop k)
      | none => (rule (c :: r)).bind fun x s' => if l.length + 1 ≤ 500 then rulesL n (l ++ [x]) s' else .err 2 s'
def read (s : List UInt8) : List Line × Int :=
  if 50000 < s.length then ([], 2) else match rulesL s.length [] s with
    | .ok l _ => (l, 0)
    | .err e _ => ([], e)
end Go.Rd
end

section
/- What is left of a text is no longer than it was. -/
namespace Go.Rd
theorem Res.bind_ok {α β : Type} (a : α) (s : List UInt8) (f : α → List UInt8 → Res β) : (Res.ok a s).bind f = f a s := rfl
theorem Res.bind_err {α β : Type} (e : Int) (s : List UInt8) (f : α → List UInt8 → Res β) : (Res.err e s : Res α).bind f = .err e s := rfl
def Res.le {α : Type} (n : Nat) : Res α → Prop
  | .ok _ s => s.length ≤ n
  | .err _ _ => True
theorem Res.le_bind {α β : Type} {n : Nat} {r : Res α} {f : α → List UInt8 → Res β} (hr : r.le n) (hf : ∀ a s, s.length ≤ n → (f a s).le n) : (r.bind f).le n := by
  cases r with
  | ok a s => exact hf a s hr
  | err e s => trivial
theorem Res.le_mono {α : Type} {n m : Nat} {r : Res α} (h : r.le n) (hm : n ≤ m) : r.le m := by
  cases r with
  | ok a s => exact Nat.le_trans h hm
  | err e s => trivial
theorem Res.le_ok {α : Type} {n : Nat} {r : Res α} {a : α} {s : List UInt8} (h : r.le n) (e : r = .ok a s) : s.length ≤ n := by rw [e] at h; exact h
theorem dw_le (q : UInt8 → Bool) (s : List UInt8) : (s.dropWhile q).length ≤ s.length := (List.dropWhile_sublist q).length_le
theorem roomN_le : ∀ (n : Nat) (s : List UInt8), (roomN n s).length ≤ s.length
  | 0, s => Nat.le_refl _
  | n + 1, [] => Nat.le_refl _
  | n + 1, c :: r => by
    simp only [roomN]
    split
    · exact Nat.le_succ_of_le (roomN_le n r)
    · split
      · exact Nat.le_refl _
      · split
        · exact Nat.le_refl _
        · rename_i k _ hk
          split
          · exact Nat.le_refl _
          · rename_i d r' hd
            split
            · refine Nat.le_trans (roomN_le n _) ?_
              have := congrArg List.length hd
              simp only [List.length_drop] at this
              omega
            · exact Nat.le_refl _
theorem room_le (s : List UInt8) : (room s).length ≤ s.length := roomN_le _ _
theorem name_le (s : List UInt8) : (name s).le s.length := by
  unfold name
  split
  · trivial
  · split
    · split
      · exact dw_le _ _
      · trivial
    · trivial
theorem numberL_le (b m : Nat) : ∀ (s : List UInt8) (n : Nat) (ok : Bool), (numberL b m n ok s).le s.length
  | [], n, ok => Nat.le_refl _
  | c :: r, n, ok => by
    simp only [numberL]
    split
    · split
      · exact Res.le_mono (numberL_le b m r _ _) (by simp)
      · trivial
    · exact Nat.le_refl _
theorem number_le (b m : Nat) (s : List UInt8) : (number b m s).le s.length := numberL_le b m s 0 false
theorem drop1_le (s : List UInt8) : (s.drop 1).length ≤ s.length := by simp
theorem quoted_le (s : List UInt8) : (quoted s).le s.length := by
  unfold quoted
  split
  · show ((((s.drop 1).dropWhile isQuot).drop 1).length) ≤ _
    have := dw_le isQuot (s.drop 1)
    simp at this ⊢; omega
  · trivial
theorem value_le (b : Nat) (s : List UInt8) : (value b s).le s.length := by
  unfold value
  refine Res.le_bind (number_le _ _ _) fun r s' h => ?_
  split
  · exact h
  · trivial
theorem valuesL_le (b : Nat) : ∀ (n : Nat) (l : List Int) (s : List UInt8), (valuesL b n l s).le s.length
  | 0, l, s => Nat.le_refl _
  | n + 1, l, s => by
    simp only [valuesL]
    split
    · refine Res.le_bind (Res.le_mono (value_le _ _) (drop1_le s)) fun v s' h => Res.le_mono (valuesL_le b n _ s') h
    · exact Nat.le_refl _
theorem values_le (b : Nat) (s : List UInt8) : (values b s).le s.length := by
  unfold values
  refine Res.le_bind (value_le _ _) fun a s1 h1 => ?_
  split
  · refine Res.le_bind (Res.le_mono (value_le _ _) (Nat.le_trans (drop1_le s1) h1)) fun v s' h => ?_
    split
    · exact h
    · trivial
  · exact Res.le_mono (valuesL_le b _ _ s1) h1
theorem percent_le (s : List UInt8) : (percent s).le s.length := by
  unfold percent
  split
  · trivial
  · rename_i c r hd
    have hr : r.length ≤ s.length := by
      have := congrArg List.length hd
      simp at this; omega
    simp only
    split
    · split
      · exact Res.le_mono (values_le _ _) hr
      · split
        · exact Res.le_bind (Res.le_mono (quoted_le _) hr) fun t s' h => h
        · exact Res.le_bind (Res.le_mono (quoted_le _) hr) fun t s' h => h
    · trivial
theorem group_le {ways : List UInt8 → Res Expr} (hw : ∀ s, (ways s).le s.length) (fin : Nat) (s : List UInt8) : (group ways fin s).le s.length := by
  unfold group
  refine Res.le_bind (Res.le_mono (hw _) (Nat.le_trans (room_le _) (drop1_le s))) fun e s1 h => ?_
  split
  · show ((room s1).drop 1).length ≤ _
    exact Nat.le_trans (drop1_le _) (Nat.le_trans (room_le _) h)
  · trivial
theorem element_le {grp : Nat → List UInt8 → Res Expr} (hg : ∀ f s, (grp f s).le s.length) (s : List UInt8) : (elementG grp s).le s.length := by
  unfold elementG
  split
  · exact hg _ _
  · split
    · exact Res.le_bind (hg _ _) fun e s' h => h
    · split
      · exact Res.le_bind (quoted_le _) fun t s' h => h
      · split
        · exact percent_le _
        · exact Res.le_bind (name_le _) fun t s' h => h
theorem repeated_le {el : List UInt8 → Res Expr} (he : ∀ s, (el s).le s.length) (s : List UInt8) : (repeated el s).le s.length := by
  unfold repeated
  refine Res.le_bind (number_le _ _ _) fun l s1 h1 => ?_
  refine Res.le_bind ?_ fun h s2 h2 => ?_
  · split
    · exact Res.le_mono (number_le _ _ _) (Nat.le_trans (drop1_le s1) h1)
    · exact h1
  · refine Res.le_bind (Res.le_mono (he _) h2) fun e s3 h3 => ?_
    split
    · exact h3
    · split
      · split
        · exact h3
        · trivial
      · exact h3
theorem rowL_le {rep : List UInt8 → Res Expr} (hr : ∀ s, (rep s).le s.length) : ∀ (n : Nat) (l : List Expr) (s : List UInt8), (rowL rep n l s).le s.length
  | 0, l, s => Nat.le_refl _
  | n + 1, l, s => by
    simp only [rowL]
    split
    · exact Res.le_bind (Res.le_mono (hr _) (room_le s)) fun e s' h => Res.le_mono (rowL_le hr n _ s') h
    · exact Nat.le_refl _
theorem row_le {rep : List UInt8 → Res Expr} (hr : ∀ s, (rep s).le s.length) (s : List UInt8) : (row rep s).le s.length := by
  unfold row
  exact Res.le_bind (hr s) fun e s' h => Res.le_mono (rowL_le hr _ _ s') h
theorem waysL_le {row : List UInt8 → Res Expr} (hr : ∀ s, (row s).le s.length) : ∀ (n : Nat) (l : List Expr) (s : List UInt8), (waysL row n l s).le s.length
  | 0, l, s => Nat.le_refl _
  | n + 1, l, s => by
    simp only [waysL]
    split
    · exact Res.le_bind (Res.le_mono (hr _) (Nat.le_trans (room_le _) (Nat.le_trans (drop1_le _) (room_le s)))) fun e s' h => Res.le_mono (waysL_le hr n _ s') h
    · exact Nat.le_refl _
theorem waysG_le {row : List UInt8 → Res Expr} (hr : ∀ s, (row s).le s.length) (s : List UInt8) : (waysG row s).le s.length := by
  unfold waysG
  exact Res.le_bind (hr s) fun e s' h => Res.le_mono (waysL_le hr _ _ s') h
theorem ways_le : ∀ (k : Nat) (s : List UInt8), (ways k s).le s.length
  | 0, s => waysG_le (row_le (repeated_le (element_le fun _ s => (show Res.le s.length (Res.err 2 (s.drop 1)) from trivial)))) s
  | k + 1, s => waysG_le (row_le (repeated_le (element_le (group_le (ways_le k))))) s
theorem name_lt (s : List UInt8) : (name s).le (s.length - 1) := by
  unfold name
  split
  · trivial
  · rename_i c r
    split
    · rename_i hc
      split
      · show ((c :: r).dropWhile isName).length ≤ _
        have : isName c = true := by simp [isName, hc]
        rw [List.dropWhile_cons, if_pos this]
        exact dw_le _ _
      · trivial
    · trivial
theorem rule_lt (s : List UInt8) : (rule s).le (s.length - 1) := by
  unfold rule
  refine Res.le_bind (name_lt s) fun n s1 h1 => ?_
  split
  · have hr := room_le s1
    refine Res.le_bind (Res.le_mono (ways_le _ _) ?_) fun e s4 h4 => ?_
    · refine Nat.le_trans (room_le _) ?_
      split
      · exact Nat.le_trans (drop1_le _) (Nat.le_trans (drop1_le _) (Nat.le_trans hr h1))
      · exact Nat.le_trans (drop1_le _) (Nat.le_trans hr h1)
    · split
      · show ((room s4).drop _).length ≤ _
        have := room_le s4
        simp; omega
      · trivial
  · trivial
end Go.Rd
end

section
/- No list within an expression that has been read is long. -/
namespace Go.Rd
set_option linter.unusedVariables false

inductive Expr.Ok : Expr → Prop
  | mk {k : Int} {t : List UInt8} {n : List Int} {lo hi : Int} {ks : List Expr} : n.length < 1000000 → ks.length < 1000000 → (∀ x ∈ ks, Expr.Ok x) → Expr.Ok (.mk k t n lo hi ks)
def Res.all {α : Type} (P : α → Prop) : Res α → Prop
  | .ok a _ => P a
  | .err _ _ => True
theorem Res.all_bind {α β : Type} {Q : α → List UInt8 → Prop} {P : β → Prop} {r : Res α} {f : α → List UInt8 → Res β} (hr : ∀ a s, r = .ok a s → Q a s) (hf : ∀ a s, Q a s → (f a s).all P) : (r.bind f).all P := by
  cases r with
  | ok a s => exact hf a s (hr a s rfl)
  | err e s => trivial
theorem Res.all_ok {α : Type} {P : α → Prop} {r : Res α} {a : α} {s : List UInt8} (e : r = .ok a s) (h : r.all P) : P a := by rw [e] at h; exact h
def Fn (f : List UInt8 → Res Expr) : Prop := ∀ s : List UInt8, s.length < 60000 → (f s).all Expr.Ok
theorem group_ok {W : List UInt8 → Res Expr} (hW : Fn W) (fin : Nat) : Fn (group W fin) := by
  intro s hl
  unfold group
  have hr := room_le (s.drop 1)
  simp only [List.length_drop] at hr
  refine Res.all_bind (Q := fun e _ => e.Ok) (fun e s' h => Res.all_ok (P := Expr.Ok) h (hW _ (by omega))) (fun e s' h => ?_)
  split
  · exact h
  · trivial
end Go.Rd
end

