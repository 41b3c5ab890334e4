/- Rx: a part of the proof that each law of this seat answers true at every input. No condition. -/
import Derived.Test.YtjnnegacjmcdbaaRd
set_option linter.unusedVariables false
set_option linter.unusedSimpArgs false
set_option maxRecDepth 20000
section
/- What has been read stays as it is where a new line follows. -/
namespace Go.Rd
set_option linter.unusedVariables false
set_option linter.unusedSimpArgs false
section
variable {u : List UInt8}

theorem b10 : ((10 : UInt8).toNat) = 10 := rfl
theorem tw_ext {p : UInt8 → Bool} (hp : p 10 = false) : ∀ s : List UInt8, (s ++ 10 :: u).takeWhile p = s.takeWhile p ∧ (s ++ 10 :: u).dropWhile p = s.dropWhile p ++ 10 :: u
  | [] => by simp [List.takeWhile_cons, List.dropWhile_cons, hp]
  | c :: s => by
    have ih := tw_ext hp s
    simp only [List.cons_append, List.takeWhile_cons, List.dropWhile_cons]
    cases p c <;> simp [ih]
theorem headIs_ext {c : Nat} (h : c ≠ 10) (s : List UInt8) : headIs (s ++ 10 :: u) c = headIs s c := by
  cases s with
  | nil => show ((10 : UInt8).toNat == c) = false; simp [b10]; omega
  | cons a s => rfl
theorem headIs_cons {c : Nat} {s : List UInt8} (h : headIs s c = true) : ∃ a r, s = a :: r := by
  cases s with
  | nil => cases h
  | cons a r => exact ⟨a, r, rfl⟩
theorem endRest_ext (s : List UInt8) : endRest (s ++ 10 :: u) = endRest s ++ 10 :: u := by
  unfold endRest
  rw [headIs_ext (by omega)]
  split
  · rename_i h
    obtain ⟨a, r, rfl⟩ := headIs_cons h
    exact (tw_ext (by decide) r).2
  · rfl
theorem endRest_len (s : List UInt8) : (endRest s).length ≤ s.length := by
  unfold endRest
  split
  · have := dw_le isCom (s.drop 1)
    simp only [List.length_drop] at this; omega
  · omega
theorem endN_ext (s : List UInt8) : (endRest s = [] ∧ endN s = some s.length ∧ endN (s ++ 10 :: u) = some (s.length + 1)) ∨
    ((∃ a, endRest s = [a] ∧ a.toNat = 13) ∧ endN s = none ∧ endN (s ++ 10 :: u) = some (s.length + 1)) ∨ (endRest s ≠ [] ∧ endN (s ++ 10 :: u) = endN s ∧ ∀ k, endN s = some k → k ≤ s.length ∧ 0 < k) := by
  have he := endRest_ext (u := u) s
  have hl := endRest_len s
  unfold endN
  rw [he]
  cases hr : endRest s with
  | nil =>
    left
    refine ⟨rfl, by simp, ?_⟩
    simp only [List.nil_append, b10, if_true, List.length_append, List.length_cons]
    congr 1; omega
  | cons a r =>
    rw [hr] at hl
    simp only [List.length_cons] at hl
    have hlen : (s ++ 10 :: u).length - (a :: r ++ 10 :: u).length = s.length - (a :: r).length := by simp; omega
    simp only [List.cons_append] at hlen ⊢
    by_cases h10 : a.toNat = 10
    · right; right
      refine ⟨by simp, by simp only [h10, if_true, hlen], ?_⟩
      intro k hk
      simp only [h10, if_true, Option.some.injEq, List.length_cons] at hk
      omega
    · by_cases h13 : a.toNat = 13
      · cases r with
        | nil =>
          right; left
          refine ⟨⟨a, rfl, h13⟩, by simp [h10, headIs], ?_⟩
          have h2 : headIs ([] ++ 10 :: u) 10 = true := rfl
          rw [if_neg h10, if_pos ⟨h13, h2⟩]
          simp only [List.length_append, List.length_cons, List.length_nil, List.nil_append] at hl ⊢
          congr 1; omega
        | cons b r =>
          right; right
          have h2 : headIs (b :: r ++ 10 :: u) 10 = headIs (b :: r) 10 := rfl
          refine ⟨by simp, by simp only [h10, if_false, h2, hlen], ?_⟩
          intro k hk
          simp only [h10, if_false, List.length_cons] at hk hl
          split at hk
          · injection hk with hk; omega
          · cases hk
      · right; right
        refine ⟨by simp, by simp only [h10, h13, if_false, false_and], ?_⟩
        intro k hk
        simp only [h10, h13, if_false, false_and] at hk
        cases hk

/-- A text that does not begin with a blank. -/
def NB (u : List UInt8) : Prop := ∃ d r, u = d :: r ∧ isBlank d = false
variable (hu : NB u)
include hu
theorem stay {n k : Nat} {c : UInt8} {r : List UInt8} (hb : isBlank c = false) (he : endN (c :: r) = some k) (hk : k ≠ 0) (hd : (c :: r).drop k = u) : roomN (n + 1) (c :: r) = c :: r := by
  obtain ⟨d, r', rfl, hd'⟩ := hu
  simp only [roomN, hb, he, hk, hd, hd', if_false, Bool.false_eq_true]
theorem roomN_t : ∀ m : Nat, (10 :: u).length ≤ m → roomN m (10 :: u) = 10 :: u := by
  intro m hm
  obtain ⟨m, rfl⟩ : ∃ k, m = k + 1 := ⟨m - 1, by simp at hm; omega⟩
  rcases endN_ext (u := u) [] with ⟨_, _, h⟩ | ⟨⟨a, h, _⟩, _⟩ | ⟨h, _⟩
  · exact stay hu (by decide) h (by simp) rfl
  · cases h
  · exact absurd rfl h
theorem roomN_ext : ∀ (n m : Nat) (s : List UInt8), s.length ≤ n → (s ++ 10 :: u).length ≤ m → roomN m (s ++ 10 :: u) = roomN n s ++ 10 :: u
  | n, m, [], hn, hm => by
    have : roomN n [] = [] := by cases n <;> rfl
    rw [this]
    exact roomN_t hu m hm
  | 0, m, c :: s, hn, hm => by simp at hn
  | n + 1, m, c :: s, hn, hm => by
    obtain ⟨m, rfl⟩ : ∃ k, m = k + 1 := ⟨m - 1, by simp at hm; omega⟩
    simp only [List.length_cons] at hn
    cases hb : isBlank c with
    | true =>
      simp only [List.cons_append, roomN, hb, if_true]
      exact roomN_ext n m s (by omega) (by simp at hm ⊢; omega)
    | false =>
      rcases endN_ext (u := u) (c :: s) with ⟨_, h1, h2⟩ | ⟨_, h1, h2⟩ | ⟨_, h1, h2⟩
      · have e1 : roomN (n + 1) (c :: s) = c :: s := by simp [roomN, hb, h1]
        rw [e1]
        exact stay hu (c := c) (r := s ++ 10 :: u) hb h2 (by simp) (by rw [← List.cons_append, List.drop_append]; simp)
      · have e1 : roomN (n + 1) (c :: s) = c :: s := by simp [roomN, hb, h1]
        rw [e1]
        exact stay hu (c := c) (r := s ++ 10 :: u) hb h2 (by simp) (by rw [← List.cons_append, List.drop_append]; simp)
      · cases he : endN (c :: s) with
        | none =>
          rw [he] at h1
          have e1 : roomN (n + 1) (c :: s) = c :: s := by simp [roomN, hb, he]
          have e2 : roomN (m + 1) (c :: (s ++ 10 :: u)) = c :: (s ++ 10 :: u) := by rw [List.cons_append] at h1; simp [roomN, hb, h1]
          rw [e1]; exact e2
        | some k =>
          rw [he] at h1
          obtain ⟨hk1, hk2⟩ := h2 k he
          have hk0 : k ≠ 0 := by omega
          have hdr : (c :: (s ++ 10 :: u)).drop k = (c :: s).drop k ++ 10 :: u := by
            rw [← List.cons_append, List.drop_append_of_le_length hk1]
          rw [List.cons_append] at h1
          simp only [List.cons_append, roomN, hb, he, h1, hk0, hdr, if_false, Bool.false_eq_true]
          cases hd0 : (c :: s).drop k with
          | nil =>
            have : isBlank (10 : UInt8) = false := by decide
            simp [this]
          | cons d r' =>
            have hl' : (d :: r').length ≤ n := by rw [← hd0]; simp; omega
            have hl2 : (d :: r').length ≤ s.length := by rw [← hd0]; simp; omega
            simp only [List.cons_append]
            cases hbd : isBlank d with
            | true =>
              simp only [if_true]
              exact roomN_ext n m (d :: r') hl' (by simp at hm hl2 ⊢; omega)
            | false => simp
theorem room_ext (s : List UInt8) : room (s ++ 10 :: u) = room s ++ 10 :: u := roomN_ext hu _ _ s (Nat.le_refl _) (Nat.le_refl _)

/-- What is read stays as it is. -/
def Ext {α : Type} (u : List UInt8) (f : List UInt8 → Res α) : Prop := ∀ s v r, f s = .ok v r → f (s ++ 10 :: u) = .ok v (r ++ 10 :: u)
omit hu in
theorem bind_ok {α β : Type} {x : Res α} {g : α → List UInt8 → Res β} {v : β} {r : List UInt8} (h : x.bind g = .ok v r) : ∃ a s, x = .ok a s ∧ g a s = .ok v r := by
  cases x with
  | ok a s => exact ⟨a, s, rfl, h⟩
  | err e s => cases h
omit hu in
theorem name_ext : Ext u name := by
  intro s v r h
  cases s with
  | nil => cases h
  | cons c s =>
    simp only [name] at h
    obtain ⟨w1, w2⟩ := tw_ext (u := u) (p := isName) (by decide) (c :: s)
    rw [List.cons_append] at w1 w2
    simp only [List.cons_append, name, w1, w2]
    split at h
    · split at h
      · injection h with h1 h2
        subst h1; subst h2
        rename_i a b
        rw [if_pos a, if_pos b]
      · cases h
    · cases h
omit hu in
theorem numberL_ext {b m : Nat} (hb : b ≤ 90) : ∀ (s : List UInt8) (n : Nat) (ok : Bool) (v : Nat × Bool) (r : List UInt8), numberL b m n ok s = .ok v r → numberL b m n ok (s ++ 10 :: u) = .ok v (r ++ 10 :: u)
  | [], n, ok, v, r, h => by
    simp only [numberL] at h
    injection h with h1 h2
    subst h1; subst h2
    have : digit 10 = 99 := by decide
    simp only [List.nil_append, numberL, this]
    rw [if_neg (by omega)]
  | c :: s, n, ok, v, r, h => by
    simp only [numberL] at h
    simp only [List.cons_append, numberL]
    split at h
    · rename_i h1
      rw [if_pos h1]
      split at h
      · rename_i h2
        rw [if_pos h2]
        exact numberL_ext hb s _ _ v r h
      · cases h
    · rename_i h1
      rw [if_neg h1]
      injection h with h2 h3
      subst h2; subst h3
      rfl
omit hu in
theorem number_ext {b m : Nat} (hb : b ≤ 90) : Ext u (number b m) := fun s v r h => numberL_ext hb s _ _ v r h
omit hu in
theorem quoted_ext : Ext u quoted := by
  intro s v r h
  cases s with
  | nil => cases h
  | cons c s =>
    obtain ⟨w1, w2⟩ := tw_ext (u := u) (p := isQuot) (by decide) s
    simp only [quoted, List.drop_succ_cons, List.drop_zero] at h
    simp only [quoted, List.cons_append, List.drop_succ_cons, List.drop_zero, w1, w2, headIs_ext (u := u) (show (34 : Nat) ≠ 10 by omega)]
    split at h
    · rename_i hh
      rw [if_pos hh]
      obtain ⟨a, t, he⟩ := headIs_cons hh
      rw [he] at h ⊢
      injection h with h1 h2
      subst h1; subst h2
      rfl
    · cases h
omit hu in
theorem value_ext {b : Nat} (hb : b ≤ 90) : Ext u (value b) := by
  intro s v r h
  obtain ⟨a, s1, h1, h2⟩ := bind_ok h
  unfold value
  rw [number_ext hb s a s1 h1]
  show (if a.2 = true then _ else _) = _
  split at h2
  · rename_i hh
    rw [if_pos hh]
    injection h2 with h3 h4
    subst h3; subst h4; rfl
  · cases h2
omit hu in
theorem drop1_ext {c : Nat} {s : List UInt8} (h : headIs s c = true) : (s ++ 10 :: u).drop 1 = s.drop 1 ++ 10 :: u := by
  obtain ⟨a, r, rfl⟩ := headIs_cons h
  rfl
omit hu in
theorem headIs_lt {c : Nat} {s : List UInt8} (h : headIs s c = true) : (s.drop 1).length < s.length := by
  obtain ⟨a, r, rfl⟩ := headIs_cons h
  simp
omit hu in
theorem valuesL_ext {b : Nat} (hb : b ≤ 90) : ∀ (n m : Nat) (l : List Int) (s : List UInt8) (v : Expr) (r : List UInt8), s.length ≤ n → s.length ≤ m → valuesL b n l s = .ok v r → valuesL b m l (s ++ 10 :: u) = .ok v (r ++ 10 :: u)
  | n, m, l, s, v, r, hn, hm, h => by
    cases hh : headIs s 46 with
    | false =>
      have e1 : valuesL b n l s = .ok (.mk 6 [] l 0 0 []) s := by cases n <;> simp [valuesL, hh]
      have e2 : valuesL b m l (s ++ 10 :: u) = .ok (.mk 6 [] l 0 0 []) (s ++ 10 :: u) := by cases m <;> simp [valuesL, headIs_ext (u := u) (show (46 : Nat) ≠ 10 by omega), hh]
      rw [e1] at h
      injection h with h1 h2
      subst h1; subst h2
      exact e2
    | true =>
      have hlt := headIs_lt hh
      obtain ⟨n, rfl⟩ : ∃ k, n = k + 1 := ⟨n - 1, by omega⟩
      obtain ⟨m, rfl⟩ : ∃ k, m = k + 1 := ⟨m - 1, by omega⟩
      simp only [valuesL, hh, if_true] at h
      simp only [valuesL, headIs_ext (u := u) (show (46 : Nat) ≠ 10 by omega), hh, if_true, drop1_ext hh]
      obtain ⟨a, s1, h1, h2⟩ := bind_ok h
      rw [value_ext hb _ a s1 h1, Res.bind_ok]
      have hle := Res.le_ok (value_le b (s.drop 1)) h1
      exact valuesL_ext hb n m _ s1 v r (by omega) (by omega) h2
omit hu in
theorem values_ext {b : Nat} (hb : b ≤ 90) : Ext u (values b) := by
  intro s v r h
  obtain ⟨a, s1, h1, h2⟩ := bind_ok h
  unfold values
  rw [value_ext hb s a s1 h1, Res.bind_ok]
  cases hh : headIs s1 45 with
  | true =>
    rw [hh, if_pos rfl] at h2
    rw [headIs_ext (u := u) (show (45 : Nat) ≠ 10 by omega), hh, if_pos rfl, drop1_ext hh]
    obtain ⟨c, s2, h3, h4⟩ := bind_ok h2
    rw [value_ext hb _ c s2 h3, Res.bind_ok]
    split at h4
    · rename_i hc
      rw [if_pos hc]
      injection h4 with h5 h6
      subst h5; subst h6; rfl
    · cases h4
  | false =>
    rw [hh] at h2
    rw [headIs_ext (u := u) (show (45 : Nat) ≠ 10 by omega), hh]
    simp only [Bool.false_eq_true, if_false] at h2 ⊢
    exact valuesL_ext hb _ _ _ _ _ _ (Nat.le_refl _) (by simp) h2
omit hu in
theorem baseOf_le (k : Nat) : baseOf k ≤ 90 := by
  unfold baseOf
  repeat' split
  all_goals omega
omit hu in
theorem percent_ext : Ext u percent := by
  intro s v r h
  cases s with
  | nil => cases h
  | cons p s =>
    cases s with
    | nil => cases h
    | cons c s =>
      simp only [percent, List.drop_succ_cons, List.drop_zero] at h
      simp only [percent, List.cons_append, List.drop_succ_cons, List.drop_zero, headIs_ext (u := u) (show (34 : Nat) ≠ 10 by omega)]
      split at h
      · rename_i h1
        rw [if_pos h1]
        split at h
        · rename_i h2
          rw [if_pos h2]
          exact values_ext (baseOf_le _) s v r h
        · rename_i h2
          rw [if_neg h2]
          split at h
          · rename_i h3
            rw [if_pos h3]
            obtain ⟨t, s1, h4, h5⟩ := bind_ok h
            rw [quoted_ext s t s1 h4, Res.bind_ok]
            injection h5 with h6 h7
            subst h6; subst h7; rfl
          · rename_i h3
            rw [if_neg h3]
            obtain ⟨t, s1, h4, h5⟩ := bind_ok h
            rw [quoted_ext s t s1 h4, Res.bind_ok]
            injection h5 with h6 h7
            subst h6; subst h7; rfl
      · cases h
theorem group_ext {W : List UInt8 → Res Expr} (hW : Ext u W) {fin : Nat} (hf : fin ≠ 10) (s : List UInt8) (hs : s ≠ []) (v : Expr) (r : List UInt8) (h : group W fin s = .ok v r) : group W fin (s ++ 10 :: u) = .ok v (r ++ 10 :: u) := by
  cases s with
  | nil => exact absurd rfl hs
  | cons c s =>
    obtain ⟨e, s1, h1, h2⟩ := bind_ok h
    simp only [List.drop_succ_cons, List.drop_zero] at h1
    unfold group
    simp only [List.cons_append, List.drop_succ_cons, List.drop_zero]
    rw [room_ext hu, hW _ e s1 h1, Res.bind_ok, room_ext hu, headIs_ext hf]
    split at h2
    · rename_i hh
      rw [if_pos hh, drop1_ext hh]
      injection h2 with h3 h4
      subst h3; subst h4; rfl
    · cases h2
/-- A bracket's inside. -/
def GExt (u : List UInt8) (grp : Nat → List UInt8 → Res Expr) : Prop := ∀ fin s v r, (fin = 41 ∨ fin = 93) → s ≠ [] → grp fin s = .ok v r → grp fin (s ++ 10 :: u) = .ok v (r ++ 10 :: u)
omit hu in
theorem headIs_ne {c : Nat} {s : List UInt8} (h : headIs s c = true) : s ≠ [] := by rintro rfl; cases h
omit hu in
theorem element_ext {grp : Nat → List UInt8 → Res Expr} (hg : GExt u grp) : Ext u (elementG grp) := by
  intro s v r h
  unfold elementG at h ⊢
  rw [headIs_ext (u := u) (show (40 : Nat) ≠ 10 by omega), headIs_ext (u := u) (show (91 : Nat) ≠ 10 by omega), headIs_ext (u := u) (show (34 : Nat) ≠ 10 by omega), headIs_ext (u := u) (show (37 : Nat) ≠ 10 by omega)]
  split at h
  · rename_i h1
    rw [if_pos h1]
    exact hg _ _ _ _ (.inl rfl) (headIs_ne h1) h
  · rename_i h1
    rw [if_neg h1]
    split at h
    · rename_i h2
      rw [if_pos h2]
      obtain ⟨t, s1, h4, h5⟩ := bind_ok h
      rw [hg _ _ _ _ (.inr rfl) (headIs_ne h2) h4, Res.bind_ok]
      injection h5 with h6 h7
      subst h6; subst h7; rfl
    · rename_i h2
      rw [if_neg h2]
      split at h
      · rename_i h3
        rw [if_pos h3]
        obtain ⟨t, s1, h4, h5⟩ := bind_ok h
        rw [quoted_ext s t s1 h4, Res.bind_ok]
        injection h5 with h6 h7
        subst h6; subst h7; rfl
      · rename_i h3
        rw [if_neg h3]
        split at h
        · rename_i h4
          rw [if_pos h4]
          exact percent_ext s v r h
        · rename_i h4
          rw [if_neg h4]
          obtain ⟨t, s1, h4, h5⟩ := bind_ok h
          rw [name_ext s t s1 h4, Res.bind_ok]
          injection h5 with h6 h7
          subst h6; subst h7; rfl
omit hu in
theorem repeated_ext {el : List UInt8 → Res Expr} (he : Ext u el) : Ext u (repeated el) := by
  intro s v r h
  obtain ⟨l, s1, h1, h2⟩ := bind_ok h
  obtain ⟨k, s2, h3, h4⟩ := bind_ok h2
  obtain ⟨e, s3, h5, h6⟩ := bind_ok h4
  unfold repeated
  rw [number_ext (by omega) s l s1 h1, Res.bind_ok]
  have hh : (if headIs (s1 ++ 10 :: u) 42 then number 10 200 ((s1 ++ 10 :: u).drop 1) else .ok l (s1 ++ 10 :: u)) = .ok k (s2 ++ 10 :: u) := by
    rw [headIs_ext (u := u) (show (42 : Nat) ≠ 10 by omega)]
    split at h3
    · rename_i hs
      rw [if_pos hs, drop1_ext hs]
      exact number_ext (by omega) _ k s2 h3
    · rename_i hs
      rw [if_neg hs]
      injection h3 with h7 h8
      subst h7; subst h8; rfl
  rw [hh, Res.bind_ok, he s2 e s3 h5, Res.bind_ok, headIs_ext (u := u) (show (42 : Nat) ≠ 10 by omega)]
  split at h6
  · rename_i hc
    rw [if_pos hc]
    injection h6 with h7 h8
    subst h7; subst h8; rfl
  · rename_i hc
    rw [if_neg hc]
    split at h6
    · rename_i hd
      rw [if_pos hd]
      split at h6
      · rename_i hf
        rw [if_pos hf]
        injection h6 with h7 h8
        subst h7; subst h8; rfl
      · cases h6
    · rename_i hd
      rw [if_neg hd]
      injection h6 with h7 h8
      subst h7; subst h8; rfl
omit hu in
theorem begins_ext (s : List UInt8) : begins (s ++ 10 :: u) = begins s := by
  cases s with
  | nil => rfl
  | cons c s => rfl
theorem rowL_ext {rep : List UInt8 → Res Expr} (hr : Ext u rep) (hle : ∀ s, (rep s).le s.length) : ∀ (n m : Nat) (l : List Expr) (s : List UInt8) (v : Expr) (r : List UInt8), s.length ≤ n → s.length ≤ m → rowL rep n l s = .ok v r → rowL rep m l (s ++ 10 :: u) = .ok v (r ++ 10 :: u)
  | n, m, l, s, v, r, hn, hm, h => by
    have hc : (decide ((room (s ++ 10 :: u)).length < (s ++ 10 :: u).length) && begins (room (s ++ 10 :: u))) = (decide ((room s).length < s.length) && begins (room s)) := by
      rw [room_ext hu, begins_ext]
      congr 1
      rw [Bool.eq_iff_iff]; simp
    cases hh : (decide ((room s).length < s.length) && begins (room s)) with
    | false =>
      have e1 : rowL rep n l s = .ok (some_ 2 l) s := by
        cases n with
        | zero => rfl
        | succ n => rw [rowL, hh]; rfl
      have e2 : rowL rep m l (s ++ 10 :: u) = .ok (some_ 2 l) (s ++ 10 :: u) := by
        cases m with
        | zero => rfl
        | succ m => rw [rowL, hc, hh]; rfl
      rw [e1] at h
      injection h with h1 h2
      subst h1; subst h2
      exact e2
    | true =>
      have hlt : (room s).length < s.length := by simp at hh; exact hh.1
      obtain ⟨n, rfl⟩ : ∃ k, n = k + 1 := ⟨n - 1, by omega⟩
      obtain ⟨m, rfl⟩ : ∃ k, m = k + 1 := ⟨m - 1, by omega⟩
      rw [rowL, hh, if_pos rfl] at h
      rw [rowL, hc, hh, if_pos rfl, room_ext hu]
      obtain ⟨a, s1, h1, h2⟩ := bind_ok h
      rw [hr _ a s1 h1, Res.bind_ok]
      have hle1 := Res.le_ok (hle (room s)) h1
      exact rowL_ext hr hle n m _ s1 v r (by omega) (by omega) h2
theorem row_ext {rep : List UInt8 → Res Expr} (hr : Ext u rep) (hle : ∀ s, (rep s).le s.length) : Ext u (row rep) := by
  intro s v r h
  obtain ⟨a, s1, h1, h2⟩ := bind_ok h
  unfold row
  rw [hr s a s1 h1, Res.bind_ok]
  exact rowL_ext hu hr hle _ _ _ s1 v r (Nat.le_refl _) (by simp) h2
theorem waysL_ext {row : List UInt8 → Res Expr} (hr : Ext u row) (hle : ∀ s, (row s).le s.length) : ∀ (n m : Nat) (l : List Expr) (s : List UInt8) (v : Expr) (r : List UInt8), s.length ≤ n → s.length ≤ m → waysL row n l s = .ok v r → waysL row m l (s ++ 10 :: u) = .ok v (r ++ 10 :: u)
  | n, m, l, s, v, r, hn, hm, h => by
    have hc : headIs (room (s ++ 10 :: u)) 47 = headIs (room s) 47 := by rw [room_ext hu, headIs_ext (by omega)]
    cases hh : headIs (room s) 47 with
    | false =>
      have e1 : waysL row n l s = .ok (some_ 1 l) s := by
        cases n with
        | zero => rfl
        | succ n => rw [waysL, hh]; rfl
      have e2 : waysL row m l (s ++ 10 :: u) = .ok (some_ 1 l) (s ++ 10 :: u) := by
        cases m with
        | zero => rfl
        | succ m => rw [waysL, hc, hh]; rfl
      rw [e1] at h
      injection h with h1 h2
      subst h1; subst h2
      exact e2
    | true =>
      have hlt := headIs_lt hh
      have hrl := room_le s
      have hrl2 := room_le ((room s).drop 1)
      obtain ⟨n, rfl⟩ : ∃ k, n = k + 1 := ⟨n - 1, by omega⟩
      obtain ⟨m, rfl⟩ : ∃ k, m = k + 1 := ⟨m - 1, by omega⟩
      rw [waysL, hh, if_pos rfl] at h
      rw [waysL, hc, hh, if_pos rfl, room_ext hu, drop1_ext hh, room_ext hu]
      obtain ⟨a, s1, h1, h2⟩ := bind_ok h
      rw [hr _ a s1 h1, Res.bind_ok]
      have hle1 := Res.le_ok (hle _) h1
      exact waysL_ext hr hle n m _ s1 v r (by omega) (by omega) h2
theorem waysG_ext {row : List UInt8 → Res Expr} (hr : Ext u row) (hle : ∀ s, (row s).le s.length) : Ext u (waysG row) := by
  intro s v r h
  obtain ⟨a, s1, h1, h2⟩ := bind_ok h
  unfold waysG
  rw [hr s a s1 h1, Res.bind_ok]
  exact waysL_ext hu hr hle _ _ _ s1 v r (Nat.le_refl _) (by simp) h2
theorem ways_ext : ∀ k : Nat, Ext u (ways k)
  | 0 => by
    have hle := element_le (grp := fun _ s => .err 2 (s.drop 1)) (fun f s => (show Res.le s.length (Res.err 2 (s.drop 1)) from trivial))
    have he : Ext u (elementG fun _ s => .err 2 (s.drop 1)) := element_ext (fun fin s v r _ _ h => by cases h)
    exact waysG_ext hu (row_ext hu (repeated_ext he) (repeated_le hle)) (row_le (repeated_le hle))
  | k + 1 => by
    have hle := element_le (group_le (ways_le k))
    have he : Ext u (elementG (group (ways k))) := element_ext (fun fin s v r hf hs h => group_ext hu (ways_ext k) (by omega) s hs v r h)
    exact waysG_ext hu (row_ext hu (repeated_ext he) (repeated_le hle)) (row_le (repeated_le hle))
end
end Go.Rd
end

section
/- Two texts, one behind the other; lines without a rule. -/
namespace Go.Rd
set_option linter.unusedVariables false
set_option linter.unusedSimpArgs false
section
variable {u : List UInt8} (hu : NB u)
include hu

theorem rule_ext (s : List UInt8) (x : Line) (r : List UInt8) (h : rule s = .ok x r) : rule (s ++ 10 :: u) = .ok x (r ++ 10 :: u) ∨ (r = [] ∧ rule (s ++ 10 :: u) = .ok x u) := by
  obtain ⟨n, s1, h1, h2⟩ := bind_ok h
  unfold rule
  rw [name_ext s n s1 h1, Res.bind_ok, room_ext hu, headIs_ext (u := u) (show (61 : Nat) ≠ 10 by omega)]
  split at h2
  · rename_i h61
    rw [if_pos h61, drop1_ext h61]
    simp only [headIs_ext (u := u) (show (47 : Nat) ≠ 10 by omega)]
    have hs3 : (if headIs ((room s1).drop 1) 47 = true then ((room s1).drop 1 ++ 10 :: u).drop 1 else (room s1).drop 1 ++ 10 :: u) = (if headIs ((room s1).drop 1) 47 = true then ((room s1).drop 1).drop 1 else (room s1).drop 1) ++ 10 :: u := by
      split
      · rename_i h; exact drop1_ext h
      · rfl
    rw [hs3, room_ext hu]
    obtain ⟨e, s4, h3, h4⟩ := bind_ok h2
    rw [ways_ext hu 50 _ e s4 h3, Res.bind_ok, room_ext hu]
    rcases endN_ext (u := u) (room s4) with ⟨_, q1, q2⟩ | ⟨_, q1, q2⟩ | ⟨_, q1, q2⟩
    · right
      rw [q1] at h4
      rw [q2]
      injection h4 with h5 h6
      subst h5
      refine ⟨by rw [← h6]; simp, ?_⟩
      have hd : (room s4 ++ 10 :: u).drop ((room s4).length + 1) = u := by rw [List.drop_append]; simp
      simp only [hd]
    · rw [q1] at h4; cases h4
    · left
      rw [q1]
      cases he : endN (room s4) with
      | none => rw [he] at h4; cases h4
      | some k =>
        rw [he] at h4
        injection h4 with h5 h6
        subst h5; subst h6
        obtain ⟨hk, _⟩ := q2 k he
        simp only
        rw [List.drop_append_of_le_length hk]
  · cases h2

omit hu in
theorem rulesL_t {m : Nat} {l : List Line} (hm : (10 :: u).length ≤ m) : ∃ m', rulesL m l (10 :: u) = rulesL m' l u ∧ u.length ≤ m' := by
  obtain ⟨m, rfl⟩ : ∃ k, m = k + 1 := ⟨m - 1, by simp at hm; omega⟩
  refine ⟨m, ?_, by simpa using hm⟩
  have e1 : (10 :: u).dropWhile isBlank = 10 :: u := by rw [List.dropWhile_cons]; rfl
  have e2 : endN (10 :: u) = some 1 := by
    rcases endN_ext (u := u) [] with ⟨_, _, h⟩ | ⟨⟨a, h, _⟩, _⟩ | ⟨h, _⟩
    · exact h
    · cases h
    · exact absurd rfl h
  rw [rulesL]
  simp only [e1, e2, List.drop_succ_cons, List.drop_zero]

theorem rulesL_ext : ∀ (n m : Nat) (l : List Line) (s : List UInt8) (L : List Line) (r : List UInt8), s.length ≤ n → (s ++ 10 :: u).length ≤ m → rulesL n l s = .ok L r → ∃ m', rulesL m l (s ++ 10 :: u) = rulesL m' L u ∧ u.length ≤ m'
  | n, m, l, [], L, r, hn, hm, h => by
    have e : rulesL n l [] = .ok l [] := by cases n <;> rfl
    rw [e] at h
    injection h with h1 h2
    subst h1
    exact rulesL_t hm
  | 0, m, l, c :: s, L, r, hn, hm, h => by simp at hn
  | n + 1, m, l, c :: s, L, r, hn, hm, h => by
    obtain ⟨m, rfl⟩ : ∃ k, m = k + 1 := ⟨m - 1, by simp at hm; omega⟩
    simp only [List.length_cons] at hn
    have hd := dw_le isBlank (c :: s)
    obtain ⟨_, w2⟩ := tw_ext (u := u) (p := isBlank) (by decide) (c :: s)
    rw [rulesL] at h
    rw [List.cons_append, rulesL]
    rw [List.cons_append] at w2
    rw [w2]
    rcases endN_ext (u := u) ((c :: s).dropWhile isBlank) with ⟨_, q1, q2⟩ | ⟨⟨a, q0, q3⟩, q1, q2⟩ | ⟨q0, q1, q2⟩
    · rw [q1] at h
      rw [q2]
      simp only at h ⊢
      rw [List.drop_of_length_le (Nat.le_refl _)] at h
      have e : rulesL n l [] = .ok l [] := by cases n <;> rfl
      rw [e] at h
      injection h with h1 h2
      subst h1
      refine ⟨m, ?_, by simp at hm; omega⟩
      congr 1
      rw [List.drop_append]; simp
    · exfalso
      rw [q1] at h
      simp only at h
      obtain ⟨x, s1, h1, _⟩ := bind_ok h
      obtain ⟨nm, s2, h2, _⟩ := bind_ok h1
      have hlet : isLetter c = true := by
        simp only [name] at h2
        split at h2
        · assumption
        · cases h2
      have hnb : isBlank c = false := by
        cases hb : isBlank c with
        | false => rfl
        | true =>
          exfalso
          simp only [isLetter, isBlank, Bool.or_eq_true, Bool.and_eq_true, decide_eq_true_eq, beq_iff_eq] at hlet hb
          omega
      rw [List.dropWhile_cons, hnb] at q0
      simp only [Bool.false_eq_true, if_false] at q0
      unfold endRest at q0
      split at q0
      · rename_i h59
        simp only [headIs, beq_iff_eq] at h59
        simp only [isLetter, Bool.or_eq_true, Bool.and_eq_true, decide_eq_true_eq] at hlet
        omega
      · injection q0 with h3 h4
        subst h3
        simp only [isLetter, Bool.or_eq_true, Bool.and_eq_true, decide_eq_true_eq] at hlet
        omega
    · rw [q1]
      cases he : endN ((c :: s).dropWhile isBlank) with
      | some k =>
        rw [he] at h
        simp only at h ⊢
        obtain ⟨hk, hk0⟩ := q2 k he
        rw [List.drop_append_of_le_length hk]
        have hl1 : (((c :: s).dropWhile isBlank).drop k).length ≤ s.length := by simp only [List.length_drop, List.length_cons] at hd ⊢; omega
        exact rulesL_ext n m l _ L r (by omega) (by simp at hm hl1 ⊢; omega) h
      | none =>
        rw [he] at h
        simp only at h ⊢
        obtain ⟨x, s1, h1, h2⟩ := bind_ok h
        have hle := Res.le_ok (rule_lt (c :: s)) h1
        simp only [List.length_cons] at hle
        split at h2
        · rename_i h5
          rcases rule_ext hu _ x s1 h1 with h3 | ⟨h3, h4⟩
          · rw [List.cons_append] at h3
            rw [h3, Res.bind_ok, if_pos h5]
            exact rulesL_ext n m _ s1 L r (by omega) (by simp at hm ⊢; omega) h2
          · rw [List.cons_append] at h4
            rw [h4, Res.bind_ok, if_pos h5]
            subst h3
            have e : rulesL n (l ++ [x]) [] = .ok (l ++ [x]) [] := by cases n <;> rfl
            rw [e] at h2
            injection h2 with h6 h7
            subst h6
            exact ⟨m, rfl, by simp at hm; omega⟩
        · cases h2
omit hu in
/-- What stands ahead in the list stays ahead. -/
theorem rulesL_pre (P : List Line) : ∀ (n m : Nat) (l : List Line) (s : List UInt8) (L : List Line) (r : List UInt8), s.length ≤ n → s.length ≤ m → P.length + l.length + s.length ≤ 1000 → 2 * (P.length + l.length) + s.length ≤ 1000 → rulesL n l s = .ok L r → rulesL m (P ++ l) s = .ok (P ++ L) r
  | n, m, l, [], L, r, hn, hm, _, _, h => by
    have e : ∀ n l, rulesL n l [] = .ok l [] := by intro n l; cases n <;> rfl
    rw [e] at h ⊢
    injection h with h1 h2
    subst h1; subst h2; rfl
  | 0, m, l, c :: s, L, r, hn, hm, _, _, h => by simp at hn
  | n + 1, m, l, c :: s, L, r, hn, hm, hb0, hb, h => by
    obtain ⟨m, rfl⟩ : ∃ k, m = k + 1 := ⟨m - 1, by simp at hm; omega⟩
    simp only [List.length_cons] at hn hm hb hb0
    have hd := dw_le isBlank (c :: s)
    rw [rulesL] at h ⊢
    cases he : endN ((c :: s).dropWhile isBlank) with
    | some k =>
      rw [he] at h
      simp only at h ⊢
      have hk0 : (((c :: s).dropWhile isBlank).drop k).length ≤ s.length := by
        rcases endN_ext (u := []) ((c :: s).dropWhile isBlank) with ⟨_, q1, q2⟩ | ⟨_, q1, q2⟩ | ⟨_, q1, q2⟩
        · rw [he] at q1; injection q1 with q1; subst q1; simp
        · rw [he] at q1; cases q1
        · have := q2 k he
          simp only [List.length_drop, List.length_cons] at hd ⊢; omega
      exact rulesL_pre P n m l _ L r (by omega) (by omega) (by omega) (by omega) h
    | none =>
      rw [he] at h
      simp only at h ⊢
      obtain ⟨x, s1, h1, h2⟩ := bind_ok h
      have hle : s1.length + 2 ≤ (c :: s).length := by
        obtain ⟨nm, s2, g1, g2⟩ := bind_ok h1
        have g3 := Res.le_ok (name_lt (c :: s)) g1
        simp only [List.length_cons] at g3 ⊢
        split at g2
        · rename_i h61
          have g4 := headIs_lt h61
          have g5 := room_le s2
          obtain ⟨e, s4, g6, g7⟩ := bind_ok g2
          have g8 := Res.le_ok (ways_le 50 _) g6
          have g9 := room_le (if headIs ((room s2).drop 1) 47 = true then ((room s2).drop 1).drop 1 else (room s2).drop 1)
          have g10 : (if headIs ((room s2).drop 1) 47 = true then ((room s2).drop 1).drop 1 else (room s2).drop 1).length ≤ ((room s2).drop 1).length := by split <;> simp only [List.length_drop] <;> omega
          have g11 := room_le s4
          split at g7
          · injection g7 with g12 g13
            have : s1.length ≤ (room s4).length := by rw [← g13]; simp
            omega
          · cases g7
        · cases g2
      simp only [List.length_cons] at hle
      rw [h1, Res.bind_ok]
      split at h2
      · rw [if_pos (by simp; omega)]
        rw [List.append_assoc]
        exact rulesL_pre P n m (l ++ [x]) s1 L r (by omega) (by omega) (by simp; omega) (by simp; omega) h2
      · cases h2
omit hu in
theorem rulesL_count : ∀ (n : Nat) (l : List Line) (s : List UInt8) (L : List Line) (r : List UInt8), rulesL n l s = .ok L r → 2 * L.length ≤ 2 * l.length + s.length
  | 0, l, s, L, r, h => by injection h with h1 h2; subst h1; omega
  | n + 1, l, [], L, r, h => by injection h with h1 h2; subst h1; simp
  | n + 1, l, c :: s, L, r, h => by
    have hd := dw_le isBlank (c :: s)
    rw [rulesL] at h
    cases he : endN ((c :: s).dropWhile isBlank) with
    | some k =>
      rw [he] at h
      have := rulesL_count n l _ L r h
      simp only [List.length_drop] at this
      omega
    | none =>
      rw [he] at h
      obtain ⟨x, s1, h1, h2⟩ := bind_ok h
      have hle : s1.length + 2 ≤ (c :: s).length := by
        obtain ⟨nm, s2, g1, g2⟩ := bind_ok h1
        have g3 := Res.le_ok (name_lt (c :: s)) g1
        simp only [List.length_cons] at g3 ⊢
        split at g2
        · rename_i h61
          have g4 := headIs_lt h61
          have g5 := room_le s2
          obtain ⟨e, s4, g6, g7⟩ := bind_ok g2
          have g8 := Res.le_ok (ways_le 50 _) g6
          have g9 := room_le (if headIs ((room s2).drop 1) 47 = true then ((room s2).drop 1).drop 1 else (room s2).drop 1)
          have g10 : (if headIs ((room s2).drop 1) 47 = true then ((room s2).drop 1).drop 1 else (room s2).drop 1).length ≤ ((room s2).drop 1).length := by split <;> simp only [List.length_drop] <;> omega
          have g11 := room_le s4
          split at g7
          · injection g7 with g12 g13
            have : s1.length ≤ (room s4).length := by rw [← g13]; simp
            omega
          · cases g7
        · cases g2
      split at h2
      · have := rulesL_count n _ s1 L r h2
        simp only [List.length_append, List.length_cons, List.length_nil] at this hle ⊢
        omega
      · cases h2
end

theorem rulesL_errs (hnz : ∀ (s : List UInt8) (e : Int) (r : List UInt8), s.length < 60000 → rule s = .err e r → e ≠ 0) : ∀ (n : Nat) (l : List Line) (s : List UInt8) (e : Int) (r : List UInt8), s.length < 60000 → rulesL n l s = .err e r → e ≠ 0
  | 0, l, s, e, r, hs, h => by cases h
  | n + 1, l, [], e, r, hs, h => by cases h
  | n + 1, l, c :: s, e, r, hs, h => by
    have hd := dw_le isBlank (c :: s)
    rw [rulesL] at h
    cases he : endN ((c :: s).dropWhile isBlank) with
    | some k =>
      rw [he] at h
      exact rulesL_errs hnz n l _ e r (by simp only [List.length_drop]; omega) h
    | none =>
      rw [he] at h
      simp only at h
      cases hv : rule (c :: s) with
      | err c' r' =>
        rw [hv] at h
        injection h with h1 h2
        subst h1
        exact hnz _ _ _ hs hv
      | ok x s1 =>
        have hle := Res.le_ok (rule_lt (c :: s)) hv
        rw [hv, Res.bind_ok] at h
        split at h
        · exact rulesL_errs hnz n _ s1 e r (by omega) h
        · injection h with h1 h2
          omega

theorem read_pr (hnz : ∀ (s : List UInt8) (e : Int) (r : List UInt8), s.length < 60000 → rule s = .err e r → e ≠ 0) {s : List UInt8} (hs : s.length ≤ 300) (h : (read s).2 = 0) : ∃ r, rulesL s.length [] s = .ok (read s).1 r := by
  unfold read at h ⊢
  rw [if_neg (by omega)] at h ⊢
  cases hv : rulesL s.length [] s with
  | ok L r => exact ⟨r, rfl⟩
  | err e r =>
    exfalso
    rw [hv] at h
    exact rulesL_errs hnz _ _ _ e r (by omega) hv h

/-- Two texts, one behind the other. -/
theorem read_two_texts (hnz : ∀ (s : List UInt8) (e : Int) (r : List UInt8), s.length < 60000 → rule s = .err e r → e ≠ 0) {a b : List UInt8} (ha : a.length ≤ 300) (hb : b.length ≤ 300) (h1 : (read a).2 = 0) (h2 : (read b).2 = 0) (hn : NB b) : read (a ++ 10 :: b) = ((read a).1 ++ (read b).1, 0) := by
  obtain ⟨ra, p1⟩ := read_pr hnz ha h1
  obtain ⟨rb, p2⟩ := read_pr hnz hb h2
  obtain ⟨m', q1, q2⟩ := rulesL_ext hn a.length (a ++ 10 :: b).length [] a (read a).1 ra (Nat.le_refl _) (Nat.le_refl _) p1
  have c1 := rulesL_count _ _ _ _ _ p1
  simp only [List.length_nil] at c1
  have q3 := rulesL_pre (read a).1 b.length m' [] b (read b).1 rb (Nat.le_refl _) q2 (by simp; omega) (by simp; omega) p2
  rw [List.append_nil] at q3
  have : rulesL (a ++ 10 :: b).length [] (a ++ 10 :: b) = .ok ((read a).1 ++ (read b).1) rb := by rw [q1, q3]
  show (if 50000 < (a ++ 10 :: b).length then _ else _) = _
  rw [if_neg (by simp; omega), this]

/-- Lines without a rule, ahead and behind. -/
theorem read_lines (hnz : ∀ (s : List UInt8) (e : Int) (r : List UInt8), s.length < 60000 → rule s = .err e r → e ≠ 0) {a : List UInt8} (ha : a.length ≤ 300) (h1 : (read a).2 = 0) :
    read ([10, 59, 32, 120, 32, 34, 13, 10, 32, 9, 59, 32, 121, 10] ++ a ++ [10, 10, 59, 122]) = ((read a).1, 0) := by
  obtain ⟨ra, p1⟩ := read_pr hnz ha h1
  have hn : NB [10, 59, 122] := ⟨10, [59, 122], rfl, by decide⟩
  have head : ∀ (X : List UInt8) (m : Nat), rulesL (m + 3) [] ([10, 59, 32, 120, 32, 34, 13, 10, 32, 9, 59, 32, 121, 10] ++ X) = rulesL m [] X := by
    intro X m
    have e1 : endN (10 :: 59 :: 32 :: 120 :: 32 :: 34 :: 13 :: 10 :: 32 :: 9 :: 59 :: 32 :: 121 :: 10 :: X) = some 1 := by
      simp [endN, endRest, headIs]
    have e2 : endN (59 :: 32 :: 120 :: 32 :: 34 :: 13 :: 10 :: 32 :: 9 :: 59 :: 32 :: 121 :: 10 :: X) = some 7 := by
      simp [endN, endRest, headIs, isCom, isBlank, List.dropWhile_cons]
    have e3 : endN (59 :: 32 :: 121 :: 10 :: X) = some 4 := by
      simp [endN, endRest, headIs, isCom, isBlank, List.dropWhile_cons]
    have d1 : ∀ Y : List UInt8, (10 :: Y).dropWhile isBlank = 10 :: Y := fun Y => rfl
    have d2 : ∀ Y : List UInt8, (59 :: Y).dropWhile isBlank = 59 :: Y := fun Y => rfl
    have d3 : ∀ Y : List UInt8, (32 :: 9 :: 59 :: Y).dropWhile isBlank = 59 :: Y := fun Y => rfl
    simp only [List.cons_append, List.nil_append]
    rw [rulesL]
    simp only [d1, e1, List.drop_succ_cons, List.drop_zero]
    rw [rulesL]
    simp only [d2, e2, List.drop_succ_cons, List.drop_zero]
    rw [rulesL]
    simp only [d3, e3, List.drop_succ_cons, List.drop_zero]
  have hl : ([10, 59, 32, 120, 32, 34, 13, 10, 32, 9, 59, 32, 121, 10] ++ a ++ [10, 10, 59, 122] : List UInt8).length = (a.length + 15) + 3 := by simp
  obtain ⟨m', q1, q2⟩ := rulesL_ext hn a.length (a.length + 15) [] a (read a).1 ra (Nat.le_refl _) (by simp) p1
  have q3 : ∀ (m : Nat) (L : List Line), 3 ≤ m → rulesL m L [10, 59, 122] = .ok L [] := by
    intro m L hm
    obtain ⟨m, rfl⟩ : ∃ k, m = k + 3 := ⟨m - 3, by omega⟩
    rfl
  rw [q3 m' _ q2] at q1
  show (if 50000 < ([10, 59, 32, 120, 32, 34, 13, 10, 32, 9, 59, 32, 121, 10] ++ a ++ [10, 10, 59, 122] : List UInt8).length then _ else _) = _
  rw [if_neg (by rw [hl]; omega), hl, List.append_assoc, head, q1]
end Go.Rd
end

