/- Pa: a part of the proof that each law of this seat answers true at every input. No condition. -/
import Derived.Test.YthcjjicplodhjaaDoorEnc
import Derived.Test.YthcjjicplodhjaaDoorFns
set_option linter.unusedVariables false
set_option linter.unusedSimpArgs false
set_option maxRecDepth 20000
section
/- Small laws that the document's reader shares with the program's. -/
namespace Go.Proofs.YthcjjicplodhjaaDoor
open Go Go.Ev
set_option linter.unusedVariables false
set_option linter.unusedSimpArgs false

theorem drop_cons {s : List UInt8} {i : Nat} {c : UInt8} {r : List UInt8} (h : s.drop i = c :: r) : s[i]? = some c ∧ s.drop (i + 1) = r ∧ i < s.length := by
  have h1 : s[i]? = some c := by
    have := congrArg (fun l : List UInt8 => l[0]?) h
    simpa using this
  refine ⟨h1, ?_, ?_⟩
  · rw [← List.tail_drop, h]; rfl
  · have := congrArg List.length h
    simp at this; omega
def endI (s : List UInt8) : Int := match Rd.endN s with
  | some k => k
  | none => -1
def endJ (n : Nat) (r : List UInt8) : Int := match r with
  | [] => ((n - r.length : Nat) : Int)
  | a :: r' => if a.toNat = 10 then ((n - r.length + 1 : Nat) : Int) else if a.toNat = 13 ∧ Rd.headIs r' 10 = true then ((n - r.length + 2 : Nat) : Int) else -1
theorem dropWhile_le (q : UInt8 → Bool) (s : List UInt8) : (s.dropWhile q).length ≤ s.length := (List.dropWhile_sublist q).length_le
theorem drop_take_while (q : UInt8 → Bool) : ∀ s : List UInt8, s.drop (s.takeWhile q).length = s.dropWhile q
  | [] => rfl
  | c :: s => by
    rw [List.takeWhile_cons, List.dropWhile_cons]
    split
    · simpa using drop_take_while q s
    · rfl
theorem takeWhile_le (q : UInt8 → Bool) (s : List UInt8) : (s.takeWhile q).length ≤ s.length := (List.takeWhile_sublist q).length_le
theorem endRest_le (s : List UInt8) : (Rd.endRest s).length ≤ s.length := by
  unfold Rd.endRest
  split
  · exact Nat.le_trans (dropWhile_le _ _) (by simp)
  · exact Nat.le_refl _
theorem endI_eq (s : List UInt8) : endI s = endJ s.length (Rd.endRest s) := by
  unfold endI Rd.endN endJ
  simp only
  generalize s.length - (Rd.endRest s).length = k
  cases Rd.endRest s with
  | nil => rfl
  | cons a r =>
    by_cases h1 : a.toNat = 10
    · simp [h1]
    · by_cases h2 : a.toNat = 13 ∧ Rd.headIs r 10 = true
      · simp only [if_neg h1, if_pos h2]
      · simp only [if_neg h1, if_neg h2]
theorem or32_upper : ∀ n : Nat, n < 256 → 65 ≤ n → n ≤ 90 → n ||| 32 = n + 32 := by decide
theorem or32_lower : ∀ n : Nat, n < 256 → 97 ≤ n → n ≤ 122 → n ||| 32 = n := by decide
def intsV (l : List Int) : List V := l.map (V.int .i64)
theorem intsV_clean (l : List Int) : cleanL (intsV l) = true := by induction l with | nil => rfl | cons a l ih => simp [intsV, cleanL, V.clean] at ih ⊢; exact ih
theorem intsV_scal (l : List Int) : scalL (intsV l) = true := by induction l with | nil => rfl | cons a l ih => simp [intsV] at ih ⊢; exact ih
theorem frz_ints {H : Heap} {base n i ver : Nat} {l : List Int} (hg : hget H i = some (.row ver 1 false (intsV l))) (hb : base ≤ i) : frz H base (n + 1 + 1) (.rs i ver 1 0 l.length) = some (encI l) := by
  rw [frz_row hg hb (by simp [intsV]) (by omega) (fun c hc => by simp only [intsV, List.mem_map] at hc; obtain ⟨x, _, rfl⟩ := hc; rfl) (intsV_clean l) (intsV_scal l) (.inr rfl)]
  have := chunk_scal (l := intsV l)
  simp only [intsV, List.length_map] at this ⊢
  rw [this]; rfl
theorem append_int {base i ver : Nat} {H : Heap} {l : List Int} {x : Int} {n : Nat} (hg : hget H i = some (.row ver 1 false (intsV l))) (hn : n = l.length) (hr : l.length < 1000000) :
    oAppend base 1 8 false (.rs i ver 1 0 n) (.vs [.int .i64 x]) H = some (.rs i (ver + 1) 1 0 (n + 1), hset H i (.row (ver + 1) 1 false (intsV (l ++ [x])))) := by
  subst hn
  rw [oAppend_row1 hg (by simp [intsV]) rfl rfl (by omega) (.inr (by simp)) (by simp [roomOk]; omega)]
  simp [intsV]
theorem append_int_nil {base : Nat} {H : Heap} {x : Int} : oAppend base 1 8 false .nils (.vs [.int .i64 x]) H = some (.rs H.length 0 1 0 1, .row 0 1 false (intsV [x]) :: H) :=
  oAppend_nil1 (x := .int .i64 x) rfl rfl (by omega) (by decide)
theorem headIs_len {s : List UInt8} {c : Nat} (h : Rd.headIs s c = true) : 1 ≤ s.length := by cases s with | nil => simp [Rd.headIs] at h | cons a s => simp
def zE : List V := [.int .i64 0, .str [], .nils, .int .i64 0, .int .i64 0, .nils]
def z2 (H : Heap) (l : List Int) (k : Int) (ver : Nat) : Heap := .var [.int .i64 k, .str [], .rs (H.length + 1) ver 1 0 l.length, .int .i64 0, .int .i64 0, .nils] :: .row ver 1 false (intsV l) :: .var zE :: H
theorem cellsE_cons (e : Rd.Expr) (l : List Rd.Expr) : cellsE (e :: l) = (encE e).cells ++ cellsE l := rfl
theorem take_cellsE (e : Rd.Expr) (l : List Rd.Expr) : V.agg (List.take 6 (cellsE (e :: l))) = encE e := by
  rw [cellsE_cons, List.take_left' (Qbh e), Qbg]
theorem frz_someK {H' H : Heap} {n ver : Nat} {l : List Rd.Expr} {m : Nat} (hg : hget H' (n + 1) = some (.row ver 6 true (cellsE l))) (hm : m = l.length) : frz H' n 11 (.rs (n + 1) ver 6 0 m) = some (.vs (encEs l)) :=
  frz_encEs (n := 9) hg (by omega) hm
def zL : List V := [.str [], .bool false, .int .i64 0, .str [], .nils, .int .i64 0, .int .i64 0, .nils]
theorem endN_le (s : List UInt8) (k : Nat) (h : Rd.endN s = some k) : k ≤ s.length := by
  unfold Rd.endN at h
  have hr := endRest_le s
  simp only at h
  cases he : Rd.endRest s with
  | nil => rw [he] at h; simp at h; omega
  | cons a r =>
    rw [he] at h hr
    simp only [List.length_cons] at h hr
    split at h
    · injection h with h; omega
    · split at h
      · rename_i h2
        have := headIs_len h2.2
        injection h with h; omega
      · cases h
theorem endN_pos (s : List UInt8) (k : Nat) (hs : s ≠ []) (h : Rd.endN s = some k) : 1 ≤ k := by
  unfold Rd.endN at h
  have hr := endRest_le s
  have h1 : 1 ≤ s.length := by cases s with | nil => exact absurd rfl hs | cons c r => simp
  simp only at h
  cases he : Rd.endRest s with
  | nil => rw [he] at h; simp at h; omega
  | cons a r =>
    rw [he] at h hr
    simp only [List.length_cons] at h hr
    split at h
    · injection h with h; omega
    · split at h
      · injection h with h; omega
      · cases h
theorem skip_lt {c : UInt8} {r : List UInt8} {n k : Nat} (hn : (c :: r).length ≤ n + 1) (hen : Rd.endN ((c :: r).dropWhile Rd.isBlank) = some k) : (((c :: r).dropWhile Rd.isBlank).drop k).length ≤ n := by
  have hdl := dropWhile_le Rd.isBlank (c :: r)
  by_cases he : (c :: r).dropWhile Rd.isBlank = []
  · rw [he]; simp
  · have := endN_pos _ k he hen
    rw [List.length_drop]; omega
end Go.Proofs.YthcjjicplodhjaaDoor
end

section
/- The document's reader, function by function: what a byte is, lines' ends, room. -/
namespace Go.Proofs.YthcjjicplodhjaaDoor
open Go Go.Ev
set_option linter.unusedVariables false
set_option linter.unusedSimpArgs false

/-- The reader's text, place and error. -/
abbrev RfAt (H : Heap) (p : Nat) (S : List UInt8) (a : Nat) (e : Int) : Prop := hget H p = some (.var [.str S, .int .i64 a, .int .i64 e])
abbrev rfSet (H : Heap) (p : Nat) (S : List UInt8) (a : Nat) (e : Int) : Heap := hset H p (.var [.str S, .int .i64 a, .int .i64 e])
theorem rf_o {H : Heap} {p : Nat} {S : List UInt8} {a : Nat} {e : Int} {b : Blk} (hs : RfAt H p S a e) : RfAt (b :: H) p S a e := by rw [RfAt, Qcn (hget_lt hs)]; exact hs
theorem rf_s {H : Heap} {p : Nat} {S : List UInt8} {a : Nat} {e : Int} (hp : p < H.length) : RfAt (rfSet H p S a e) p S a e := Qco hp

/-- A byte, or -1. -/
def hd (s : List UInt8) : Int :=
  match s with
  | [] => -1
  | c :: _ => c.toNat
theorem r_fail {p : Nat} {S : List UInt8} {a : Nat} {e : Int} {H : Heap} (hs : RfAt H p S a e) (k : Int) : E n_ref03_reader_fail [.ptr p 0 0, .int .i64 k] H = some (.ret (.tup []), rfSet H p S a (if e = 0 then k else e)) := by
  have hp := hget_lt hs
  rw [ref03_reader_fail_E, ref03_reader_fail_eq]
  by_cases h : e = 0
  · subst h
    simp (maxDischargeDepth := 9) only [Qah, Qag, Qbe, Qfr, Qew, Qee, Qda, Qdc, Qhm, Qgn, Qas, Qgr, Qgq, Qgv, Qdl, Qhk, Qhi, Qhh, Qcv, decide_true, if_true, List.drop_zero, List.drop_succ_cons, List.length_cons, List.length_nil, Nat.zero_add, Bool.and_true, List.append_nil, Nat.reduceAdd, oLoad_ptr, oStore_ptr, List.drop_nil, le_s, Nat.le_refl, Nat.zero_le, or_true, and_self, hp, hs, rfSet]
  · rw [if_neg h]
    simp (maxDischargeDepth := 9) only [Qah, Qag, Qbd, Qfr, Qew, Qee, Qda, Qdc, Qhm, Qgn, Qas, Qgr, Qgq, Qgv, Qdl, Qhk, Qhi, Qhh, Qcv, decide_false, if_true, List.drop_zero, List.drop_succ_cons, List.length_cons, List.length_nil, Nat.zero_add, Bool.and_true, List.append_nil, Nat.reduceAdd, oLoad_ptr, oStore_ptr, List.drop_nil, le_s, Nat.le_refl, Nat.zero_le, or_true, and_self, hp, hs, h, rfSet, hset_self hs]

theorem r_at {p : Nat} {S : List UInt8} {a : Nat} {e : Int} {H : Heap} (hs : RfAt H p S a e) (hl : S.length < 60000) (k : Nat) (hk : a + k < 1000000000) :
    E n_ref03_reader_at [.ptr p 0 0, .int .i64 k] H = some (.ret (.int .i64 (hd (S.drop (a + k)))), H) := by
  rw [ref03_reader_at_E, ref03_reader_at_eq]
  have w : IntKind.i64.wrap ((a : Int) + (k : Int)) = ((a + k : Nat) : Int) := by rw [wrap_i64 (by omega) (by omega)]; omega
  by_cases h : S.length ≤ a + k
  · have h' : (S.length : Int) ≤ ((a + k : Nat) : Int) := by omega
    rw [List.drop_of_length_le h]
    simp (maxDischargeDepth := 9) only [Qah, Qbe, Qfr, Qew, Qfg, Qea, Qef, Qda, Qdc, Qhm, Qgh, decide_true, List.drop_zero, List.drop_succ_cons, Nat.add_zero, Nat.zero_add, oLoad_ptr, hs, w, h', hd]
  · have h' : ¬ (S.length : Int) ≤ ((a + k : Nat) : Int) := by omega
    obtain ⟨c, r, hc⟩ : ∃ c r, S.drop (a + k) = c :: r := by
      cases hd : S.drop (a + k) with
      | nil => simp at hd; omega
      | cons c r => exact ⟨c, r, rfl⟩
    obtain ⟨g1, g2, g3⟩ := drop_cons hc
    have h5 : oIndexStr (.str S) (.int .i64 ((a + k : Nat) : Int)) = some (.int .u8 c.toNat) := oIndexStr_at (by omega) (by rw [Int.toNat_natCast]; exact g1)
    have w2 : IntKind.i64.wrap (c.toNat : Int) = c.toNat := wrap_i64 (by omega) (by have := c.toNat_lt; omega)
    rw [hc]
    simp (maxDischargeDepth := 9) only [Qah, Qbd, Qfr, Qew, Qfb, Qfg, Qea, Qef, Qda, Qdc, Qhm, Qgh, decide_false, List.drop_zero, List.drop_succ_cons, Nat.add_zero, Nat.zero_add, oLoad_ptr, hs, w, h', h5, w2, hd]

def blankI (c : Int) : Bool := decide (c = 32) || decide (c = 9)
def alphaI (c : Int) : Bool := decide (65 ≤ c) && decide (c ≤ 90) || decide (97 ≤ c) && decide (c ≤ 122)
def digitI (c : Int) : Bool := decide (48 ≤ c) && decide (c ≤ 57)
theorem r_blank (c : Int) (H : Heap) : E n_ref03_blank [.int .i64 c] H = some (.ret (.bool (blankI c)), H) := by
  rw [ref03_blank_E, ref03_blank_eq]
  unfold blankI
  cases h1 : decide (c = 32) <;> cases h2 : decide (c = 9) <;> simp (maxDischargeDepth := 9) only [Qah, Qcl, Qcj, Qfp, Qfu, Qft, Qee, Qda, Qgf, Bool.or_true, Bool.or_false, h1, h2]
theorem r_alpha (c : Int) (H : Heap) : E n_ref03_alpha [.int .i64 c] H = some (.ret (.bool (alphaI c)), H) := by
  rw [ref03_alpha_E, ref03_alpha_eq]
  unfold alphaI
  cases h1 : decide (65 ≤ c) <;> cases h2 : decide (c ≤ 90) <;> cases h3 : decide (97 ≤ c) <;> cases h4 : decide (c ≤ 122) <;> simp (maxDischargeDepth := 9) only [Qah, Qcl, Qcj, Qci, Qck, Qfp, Qfu, Qft, Qeh, Qef, Qda, Qgf, Bool.and_true, Bool.and_false, Bool.or_true, Bool.or_false, h1, h2, h3, h4]
theorem r_digit (c : Int) (H : Heap) : E n_ref03_digit [.int .i64 c] H = some (.ret (.bool (digitI c)), H) := by
  rw [ref03_digit_E, ref03_digit_eq]
  unfold digitI
  cases h1 : decide (48 ≤ c) <;> cases h2 : decide (c ≤ 57) <;> simp (maxDischargeDepth := 9) only [Qah, Qcl, Qci, Qfp, Qfu, Qft, Qeh, Qef, Qda, Qgf, Bool.and_true, Bool.and_false, h1, h2]
theorem r_lower (c : UInt8) (H : Heap) : E n_ref03_lower [.int .u8 c.toNat] H = some (.ret (.int .u8 (Rd.smallB c).toNat), H) := by
  rw [ref03_lower_E, ref03_lower_eq]
  have hc := c.toNat_lt
  cases h1 : decide ((65 : Int) ≤ c.toNat) <;> cases h2 : decide ((c.toNat : Int) ≤ 90)
  case true.true =>
    have e1 : IntKind.u8.wrap ((c.toNat : Int) + 32) = ((Rd.smallB c).toNat : Int) := by
      simp at h1 h2
      rw [wrap_u8 (by omega) (by omega)]
      unfold Rd.smallB
      rw [if_pos ⟨by omega, by omega⟩]
      simp; omega
    simp (maxDischargeDepth := 9) only [Qah, Qbe, Qcl, Qfp, Qfu, Qea, Qeh, Qef, Qda, Qgh, h1, h2, e1]
  all_goals
    have e2 : Rd.smallB c = c := by
      unfold Rd.smallB
      simp at h1 h2
      rw [if_neg (by omega)]
    simp (maxDischargeDepth := 9) only [Qah, Qbd, Qcl, Qci, Qfp, Qfu, Qft, Qea, Qeh, Qef, Qda, Qgh, h1, h2, e2]

/-- Is something so of the first byte? -/
def hdP (q : UInt8 → Bool) (s : List UInt8) : Bool :=
  match s with
  | [] => false
  | c :: _ => q c
theorem blank_hd (s : List UInt8) : blankI (hd s) = hdP Rd.isBlank s := by
  cases s with
  | nil => rfl
  | cons c s => show (decide ((c.toNat : Int) = 32) || decide ((c.toNat : Int) = 9)) = (c.toNat == 32 || c.toNat == 9); rw [Bool.eq_iff_iff]; simp only [Bool.or_eq_true, Bool.and_eq_true, decide_eq_true_eq, beq_iff_eq]; omega
theorem alpha_hd (s : List UInt8) : alphaI (hd s) = hdP Rd.isLetter s := by
  cases s with
  | nil => rfl
  | cons c s => show (decide (65 ≤ (c.toNat : Int)) && decide ((c.toNat : Int) ≤ 90) || decide (97 ≤ (c.toNat : Int)) && decide ((c.toNat : Int) ≤ 122)) = Rd.isLetter c; unfold Rd.isLetter; rw [Bool.eq_iff_iff]; simp only [Bool.or_eq_true, Bool.and_eq_true, decide_eq_true_eq, beq_iff_eq]; omega
theorem digit_hd (s : List UInt8) : digitI (hd s) = hdP Rd.isDigit s := by
  cases s with
  | nil => rfl
  | cons c s => show (decide (48 ≤ (c.toNat : Int)) && decide ((c.toNat : Int) ≤ 57)) = Rd.isDigit c; unfold Rd.isDigit; rw [Bool.eq_iff_iff]; simp only [Bool.or_eq_true, Bool.and_eq_true, decide_eq_true_eq, beq_iff_eq]; omega
theorem hd_eq (s : List UInt8) (k : Nat) : decide (hd s = (k : Int)) = Rd.headIs s k := by
  cases s with
  | nil => exact decide_eq_false (by simp only [hd]; omega)
  | cons c s => show decide ((c.toNat : Int) = (k : Int)) = (c.toNat == k); rw [Bool.eq_iff_iff]; simp only [Bool.or_eq_true, Bool.and_eq_true, decide_eq_true_eq, beq_iff_eq]; omega

/-- How long the line's end is, from so far on. -/
theorem r_ends_j {p : Nat} {S : List UInt8} {a : Nat} {e : Int} {H : Heap} (hs : RfAt H p S a e) (hl : S.length < 60000) (k : Nat) (hk : a + k < 900000000) :
    ref03_reader_ends_j2 H.length (.ptr p 0 0) (.int .i64 k) H = some (.ret (.int .i64 (match S.drop (a + k) with
      | [] => (k : Int)
      | c :: r => if c.toNat = 10 then (k + 1 : Nat) else if c.toNat = 13 ∧ Rd.headIs r 10 = true then (k + 2 : Nat) else -1)), H) := by
  rw [ref03_reader_ends_j2_eq]
  have h0 := r_at hs hl k (by omega)
  have h1 := r_at hs hl (k + 1) (by omega)
  have w1 : IntKind.i64.wrap ((k : Int) + 1) = ((k + 1 : Nat) : Int) := wrap_succ (by omega)
  have w2 : IntKind.i64.wrap ((k : Int) + 2) = ((k + 2 : Nat) : Int) := by rw [wrap_i64 (by omega) (by omega)]; omega
  cases hd0 : S.drop (a + k) with
  | nil =>
    rw [hd0] at h0
    simp only [hd] at h0
    have n1 : ¬ ((-1 : Int) = 10) := by omega
    have n2 : ¬ ((-1 : Int) = 13) := by omega
    have n3 : (-1 : Int) < 0 := by omega
    simp (maxDischargeDepth := 9) only [Qah, Qab, Qbe, Qbd, Qci, Qfp, Qft, Qea, Qee, Qei, Qda, Qgh, decide_true, decide_false, h0, n1, n2, n3]
  | cons c r =>
    rw [hd0] at h0
    obtain ⟨g1, g2, g3⟩ := drop_cons hd0
    rw [show a + (k + 1) = a + k + 1 by omega, g2] at h1
    simp only [hd] at h0
    have hr := hd_eq r 10
    simp only [Qam] at hr
    cases hc : decide ((c.toNat : Int) = 10) with
    | true =>
      have : c.toNat = 10 := by simp at hc; omega
      simp (maxDischargeDepth := 9) only [Qah, Qab, Qbe, Qfp, Qea, Qee, Qda, Qgh, h0, hc, w1]
      simp [this]
    | false =>
      have n1 : ¬ c.toNat = 10 := by simp at hc; omega
      have n3 : ¬ (c.toNat : Int) < 0 := by omega
      cases hc2 : decide ((c.toNat : Int) = 13) with
      | false =>
        have n2 : ¬ c.toNat = 13 := by simp at hc2; omega
        simp (maxDischargeDepth := 9) only [Qah, Qab, Qbd, Qci, Qfp, Qft, Qea, Qee, Qei, Qda, Qgh, decide_false, h0, hc, hc2, n3]
        simp [n1, n2]
      | true =>
        have n2 : c.toNat = 13 := by simp at hc2; omega
        cases hq : Rd.headIs r 10 with
        | true =>
          rw [hq] at hr
          simp (maxDischargeDepth := 9) only [Qah, Qab, Qbe, Qbd, Qcl, Qfp, Qfu, Qea, Qee, Qei, Qda, Qgh, h0, hc, hc2, w1, h1, hr, w2]
          simp [n2, hq]
        | false =>
          rw [hq] at hr
          simp (maxDischargeDepth := 9) only [Qah, Qab, Qbd, Qcl, Qfp, Qfu, Qea, Qee, Qei, Qda, Qgh, decide_false, h0, hc, hc2, w1, h1, hr, n3]
          simp [n2, hq]

theorem com_hd (s : List UInt8) : (blankI (hd s) || (decide (32 < hd s) && decide (hd s < 127))) = hdP Rd.isCom s := by
  rw [blank_hd]
  cases s with
  | nil => rfl
  | cons c s =>
    show (Rd.isBlank c || (decide (32 < (c.toNat : Int)) && decide ((c.toNat : Int) < 127))) = Rd.isCom c
    unfold Rd.isCom
    congr 1
    rw [Bool.eq_iff_iff]; simp only [Bool.or_eq_true, Bool.and_eq_true, decide_eq_true_eq, beq_iff_eq]; omega

theorem r_ends_s {p : Nat} {S : List UInt8} {a : Nat} {e : Int} {H : Heap} (hs : RfAt H p S a e) (hl : S.length < 60000) (ha : a < 100000000) (k : Nat) (hk : k ≤ S.length + 1) :
    ref03_reader_ends_l1 H.length (.ptr p 0 0) (.int .i64 k) H = if hdP Rd.isCom (S.drop (a + k)) = true then ref03_reader_ends_l1 H.length (.ptr p 0 0) (.int .i64 ((k + 1 : Nat) : Int)) H else ref03_reader_ends_j2 H.length (.ptr p 0 0) (.int .i64 k) H := by
  have h0 := r_at hs hl k (by omega)
  have w1 : IntKind.i64.wrap ((k : Int) + 1) = ((k + 1 : Nat) : Int) := wrap_succ (by omega)
  rw [ref03_reader_ends_l1_eq, ← com_hd]
  generalize S.drop (a + k) = r at *
  cases h1 : blankI (hd r) with
  | true => simp (maxDischargeDepth := 9) only [Qah, Qab, Qbe, Qcj, Qck, Qfp, Qfu, Qea, if_true, Bool.true_or, h0, r_blank, h1, w1]
  | false =>
    cases h2 : decide (32 < hd r) with
    | false => simp (maxDischargeDepth := 9) only [Qah, Qab, Qbd, Qcl, Qci, Qfp, Qft, Qea, Qeg, if_false, Bool.false_and, Bool.or_false, Bool.false_eq_true, h0, r_blank, h1, h2]
    | true => cases h3 : decide (hd r < 127) <;> simp (maxDischargeDepth := 9) only [Qah, Qab, Qbe, Qbd, Qcl, Qfp, Qfu, Qft, Qea, Qei, Qeg, if_true, if_false, Bool.and_true, Bool.and_false, Bool.or_true, Bool.or_false, Bool.false_eq_true, h0, r_blank, h1, h2, h3, w1]
theorem r_ends_l {p : Nat} {S : List UInt8} {a : Nat} {e : Int} {H : Heap} (hs : RfAt H p S a e) (hl : S.length < 60000) (ha : a < 100000000) : ∀ (r : List UInt8) (k : Nat), S.drop (a + k) = r → k ≤ S.length + 1 →
    ref03_reader_ends_l1 H.length (.ptr p 0 0) (.int .i64 k) H = ref03_reader_ends_j2 H.length (.ptr p 0 0) (.int .i64 ((k + (r.takeWhile Rd.isCom).length : Nat) : Int)) H
  | [], k, hd0, hk => by
    rw [r_ends_s hs hl ha k hk, hd0]
    simp [hdP]
  | c :: r, k, hd0, hk => by
    obtain ⟨g1, g2, g3⟩ := drop_cons hd0
    rw [r_ends_s hs hl ha k hk, hd0, List.takeWhile_cons, show hdP Rd.isCom (c :: r) = Rd.isCom c from rfl]
    by_cases hc : Rd.isCom c = true
    case neg => rw [if_neg hc, if_neg hc]; rfl
    case pos =>
      rw [if_pos hc, if_pos hc, r_ends_l hs hl ha r (k + 1) (by rw [← g2]; congr 1) (by omega)]
      simp only [List.length_cons]
      rw [show k + 1 + (List.takeWhile Rd.isCom r).length = k + ((List.takeWhile Rd.isCom r).length + 1) by omega]

theorem r_ends {p : Nat} {S : List UInt8} {a : Nat} {e : Int} {H : Heap} (hs : RfAt H p S a e) (hl : S.length < 60000) (ha : a < 100000000) : E n_ref03_reader_ends [.ptr p 0 0] H = some (.ret (.int .i64 (endI (S.drop a))), H) := by
  rw [ref03_reader_ends_E, ref03_reader_ends_eq, endI_eq]
  have h0 := r_at hs hl 0 (by omega)
  have h59 := hd_eq (S.drop a) 59
  simp only [Qam, Nat.add_zero] at h0 h59
  unfold Rd.endRest
  cases h1 : Rd.headIs (S.drop a) 59 with
  | false =>
    rw [h1] at h59
    have j := r_ends_j hs hl 0 (by omega)
    simp only [Qam, Nat.add_zero] at j
    simp (maxDischargeDepth := 9) only [Qah, Qab, Qbd, Qee, Qam, if_false, Nat.zero_add, Bool.false_eq_true, h0, h59, j]
    unfold endJ
    cases S.drop a with
    | nil => simp
    | cons c r => simp
  | true =>
    rw [h1] at h59
    have hlen := headIs_len h1
    have hl1 := r_ends_l hs hl ha (S.drop (a + 1)) 1 rfl (by omega)
    have j := r_ends_j hs hl (1 + ((S.drop (a + 1)).takeWhile Rd.isCom).length) (by have := takeWhile_le Rd.isCom (S.drop (a + 1)); simp at this; omega)
    rw [j] at hl1
    simp only [Qam] at hl1
    simp (maxDischargeDepth := 9) only [Qah, Qab, Qbe, Qee, if_true, h0, h59, hl1]
    have e1 : (S.drop a).drop 1 = S.drop (a + 1) := by rw [List.drop_drop]
    rw [e1]
    have e2 : S.drop (a + (1 + ((S.drop (a + 1)).takeWhile Rd.isCom).length)) = (S.drop (a + 1)).dropWhile Rd.isCom := by
      rw [← drop_take_while, List.drop_drop]; congr 1; omega
    rw [e2]
    have e3 : (S.drop a).length - ((S.drop (a + 1)).dropWhile Rd.isCom).length = 1 + ((S.drop (a + 1)).takeWhile Rd.isCom).length := by
      have := congrArg List.length (List.takeWhile_append_dropWhile (p := Rd.isCom) (l := S.drop (a + 1)))
      simp only [List.length_append, List.length_drop] at this ⊢
      simp only [List.length_drop] at hlen
      omega
    unfold endJ
    generalize hk : 1 + ((S.drop (a + 1)).takeWhile Rd.isCom).length = k at *
    cases hdw : (S.drop (a + 1)).dropWhile Rd.isCom with
    | nil => rw [hdw] at e3; simp only; rw [← e3]
    | cons c r => rw [hdw] at e3; simp only; rw [e3]
end Go.Proofs.YthcjjicplodhjaaDoor
end

section
/- The document's reader, function by function: room, names, numbers. -/
namespace Go.Proofs.YthcjjicplodhjaaDoor
open Go Go.Ev
set_option linter.unusedVariables false
set_option linter.unusedSimpArgs false

/-- What the document's reader comes to, where the words' answer is this one. -/
def Rel {α : Type} (S : List UInt8) (r : Rd.Res α) (x : α) (a : Nat) (e : Int) : Prop :=
  match r with
  | .ok y s => x = y ∧ S.drop a = s ∧ a ≤ S.length ∧ e = 0
  | .err c _ => e = c ∧ c ≠ 0
/-- The words' answer from a state on. -/
def startR {α : Type} (f : List UInt8 → Rd.Res α) (S : List UInt8) (a : Nat) (e : Int) : Rd.Res α := if e = 0 then f (S.drop a) else .err e []
/-- A function of the document's reader does what the words say. -/
def RfC {α : Type} (n : FuncId) (args : List V) (enc : α → V) (w : Nat) (f : List UInt8 → Rd.Res α) : Prop :=
  ∀ {p : Nat} {S : List UInt8} {a : Nat} {e : Int} {B : Nat} {H : Heap}, RfAt H p S a e → S.length < 60000 → a ≤ S.length + B → B ≤ 10000 → (e = 0 → a ≤ S.length) →
    ∃ x a' e', E n (.ptr p 0 0 :: args) H = some (.ret (enc x), rfSet H p S a' e') ∧ a' ≤ S.length + B + w ∧ Rel S (startR f S a e) x a' e'

theorem wrap_nat {a b : Nat} (h : a + b < 4611686018427387904) : IntKind.i64.wrap ((a : Int) + (b : Int)) = ((a + b : Nat) : Int) := by
  rw [wrap_i64 (by omega) (by omega)]; omega

theorem r_skip_l {p : Nat} {S : List UInt8} (hl : S.length < 60000) {base fr : Nat} : ∀ (n : Nat) {a : Nat} {H : Heap}, RfAt H p S a 0 → base = H.length → (S.drop a).length ≤ n → a ≤ S.length → fr ≤ a →
    ∃ a', ref03_reader_skip_l1 base (.ptr p 0 0) (.int .i64 fr) H = some (.ret (.bool (decide (fr < a'))), rfSet H p S a' 0) ∧ S.drop a' = Rd.roomN n (S.drop a) ∧ a' ≤ S.length ∧ a ≤ a'
  | n, a, H, hs, hb, hn, ha, hf => by
    subst hb
    have hp := hget_lt hs
    have he := r_ends hs hl (by omega)
    have h0 := r_at hs hl 0 (by omega)
    simp only [Qam, Nat.add_zero] at h0
    have hbl := blank_hd (S.drop a)
    have stop : ∀ s, S.drop a = s → Rd.roomN n s = s → ref03_reader_skip_l1 H.length (.ptr p 0 0) (.int .i64 fr) H = some (.ret (.bool (decide ((fr : Int) < (a : Int)))), H) →
        ∃ a', ref03_reader_skip_l1 H.length (.ptr p 0 0) (.int .i64 fr) H = some (.ret (.bool (decide (fr < a'))), rfSet H p S a' 0) ∧ S.drop a' = Rd.roomN n s ∧ a' ≤ S.length ∧ a ≤ a' := by
      intro s h1 h2 h3
      refine ⟨a, ?_, by rw [h1, h2], ha, Nat.le_refl _⟩
      rw [h3, rfSet, hset_self hs]
      congr 4
      simp
    cases hd0 : S.drop a with
    | nil =>
      refine stop [] hd0 (by cases n <;> rfl) ?_
      rw [hd0] at h0 he hbl
      have hi : endI [] = 0 := by decide
      rw [hi] at he
      simp only [hdP] at hbl
      rw [ref03_reader_skip_l1_eq]
      have n0 : ¬ (0 : Int) < 0 := by omega
      simp (maxDischargeDepth := 9) only [Qah, Qag, Qab, Qbe, Qbd, Qci, Qfp, Qft, Qfr, Qew, Qea, Qee, Qeg, Qda, Qdc, Qhm, Qgf, Qas, Qgr, Qgq, Qgv, Qdl, Qhk, Qhi, Qhh, decide_true, decide_false, if_true, List.drop_zero, List.drop_succ_cons, List.length_cons, List.length_nil, Nat.zero_add, Bool.and_true, List.nil_append, List.cons_append, Nat.reduceAdd, oLoad_ptr, oStore_ptr, le_s, Nat.le_refl, Nat.zero_le, or_true, and_self, hs, he, h0, r_blank, hbl, n0]
    | cons c r =>
      obtain ⟨g1, g2, g3⟩ := drop_cons hd0
      rw [hd0] at h0 he hbl hn
      simp only [hdP] at hbl
      obtain ⟨m, rfl⟩ : ∃ m, n = m + 1 := ⟨n - 1, by simp at hn; omega⟩
      simp only [List.length_cons] at hn
      cases h1 : Rd.isBlank c with
      | true =>
        rw [h1] at hbl
        obtain ⟨a', i1, i2, i3, i4⟩ := r_skip_l hl (base := H.length) (fr := fr) m (a := a + 1) (H := rfSet H p S (a + 1) 0) (rf_s hp) (by simp) (by rw [g2]; omega) (by omega) (by omega)
        refine ⟨a', ?_, ?_, i3, by omega⟩
        · rw [ref03_reader_skip_l1_eq]
          simp only [rfSet, Qcs] at i1
          simp (maxDischargeDepth := 9) only [Qah, Qag, Qab, Qbe, Qfp, Qfr, Qew, Qea, Qee, Qeg, Qda, Qdc, Qhm, Qgf, Qas, Qgr, Qgq, Qgv, Qdl, Qhk, Qhi, Qhh, decide_true, if_true, List.drop_zero, List.drop_succ_cons, List.length_cons, List.length_nil, Nat.zero_add, Bool.and_true, List.nil_append, List.cons_append, Nat.reduceAdd, oLoad_ptr, oStore_ptr, le_s, Nat.le_refl, Nat.zero_le, or_true, and_self, hp, hs, he, h0, r_blank, hbl, wrap_succ (show a < 4611686018427387904 by omega), i1]
        · rw [i2, g2]; simp [Rd.roomN, h1]
      | false =>
        rw [h1] at hbl
        cases h2 : Rd.endN (c :: r) with
        | none =>
          refine stop _ hd0 (by simp [Rd.roomN, h1, h2]) ?_
          have hi : endI (c :: r) = -1 := by simp [endI, h2]
          rw [hi] at he
          have n0 : ¬ (0 : Int) < -1 := by omega
          rw [ref03_reader_skip_l1_eq]
          simp (maxDischargeDepth := 9) only [Qah, Qag, Qab, Qbe, Qbd, Qci, Qfp, Qft, Qfr, Qew, Qea, Qee, Qeg, Qda, Qdc, Qhm, Qgf, Qas, Qgr, Qgq, Qgv, Qdl, Qhk, Qhi, Qhh, decide_true, decide_false, if_true, List.drop_zero, List.drop_succ_cons, List.length_cons, List.length_nil, Nat.zero_add, Bool.and_true, List.nil_append, List.cons_append, Nat.reduceAdd, oLoad_ptr, oStore_ptr, le_s, Nat.le_refl, Nat.zero_le, or_true, and_self, hs, he, h0, r_blank, hbl, n0]
        | some k =>
          have hi : endI (c :: r) = k := by simp [endI, h2]
          rw [hi] at he
          have hk := endN_pos _ k (by simp) h2
          have hk2 := endN_le _ k h2
          have n0 : (0 : Int) < k := by omega
          have hlen : (S.drop a).length = r.length + 1 := by rw [hd0]; rfl
          simp only [List.length_cons] at hk2
          simp only [List.length_drop] at hlen
          have hk' := r_at hs hl k (by omega)
          have hbk := blank_hd (S.drop (a + k))
          have hdk : (c :: r).drop k = S.drop (a + k) := by rw [← hd0, List.drop_drop]
          cases hd2 : S.drop (a + k) with
          | nil =>
            rw [hd2] at hk' hbk
            refine stop _ hd0 (by simp only [Rd.roomN, h1, h2, hdk, hd2, if_neg (show ¬ k = 0 by omega)]; rfl) ?_
            simp only [hdP] at hbk
            rw [ref03_reader_skip_l1_eq]
            simp (maxDischargeDepth := 9) only [Qah, Qag, Qab, Qbe, Qbd, Qcl, Qfp, Qfu, Qfr, Qew, Qea, Qee, Qeg, Qda, Qdc, Qhm, Qgf, Qas, Qgr, Qgq, Qgv, Qdl, Qhk, Qhi, Qhh, decide_true, if_true, List.drop_zero, List.drop_succ_cons, List.length_cons, List.length_nil, Nat.zero_add, Bool.and_true, List.nil_append, List.cons_append, Nat.reduceAdd, oLoad_ptr, oStore_ptr, le_s, Nat.le_refl, Nat.zero_le, or_true, and_self, hs, he, h0, r_blank, hbl, n0, hk', hbk]
          | cons d r' =>
            rw [hd2] at hk' hbk
            simp only [hdP] at hbk
            obtain ⟨f1, f2, f3⟩ := drop_cons hd2
            cases h3 : Rd.isBlank d with
            | false =>
              rw [h3] at hbk
              refine stop _ hd0 (by simp only [Rd.roomN, h1, h2, hdk, hd2, h3, if_neg (show ¬ k = 0 by omega)]; rfl) ?_
              rw [ref03_reader_skip_l1_eq]
              simp (maxDischargeDepth := 9) only [Qah, Qag, Qab, Qbe, Qbd, Qcl, Qfp, Qfu, Qfr, Qew, Qea, Qee, Qeg, Qda, Qdc, Qhm, Qgf, Qas, Qgr, Qgq, Qgv, Qdl, Qhk, Qhi, Qhh, decide_true, if_true, List.drop_zero, List.drop_succ_cons, List.length_cons, List.length_nil, Nat.zero_add, Bool.and_true, List.nil_append, List.cons_append, Nat.reduceAdd, oLoad_ptr, oStore_ptr, le_s, Nat.le_refl, Nat.zero_le, or_true, and_self, hs, he, h0, r_blank, hbl, n0, hk', hbk]
            | true =>
              rw [h3] at hbk
              have hlen2 : (S.drop (a + k)).length = r'.length + 1 := by rw [hd2]; rfl
              simp only [List.length_drop] at hlen2
              obtain ⟨a', i1, i2, i3, i4⟩ := r_skip_l hl (base := H.length) (fr := fr) m (a := a + k) (H := rfSet H p S (a + k) 0) (rf_s hp) (by simp) (by simp; omega) (by omega) (by omega)
              refine ⟨a', ?_, ?_, i3, by omega⟩
              · rw [ref03_reader_skip_l1_eq]
                simp only [rfSet, Qcs] at i1
                simp (maxDischargeDepth := 9) only [Qah, Qag, Qab, Qbe, Qbd, Qcl, Qfp, Qfu, Qfr, Qew, Qea, Qee, Qeg, Qda, Qdc, Qhm, Qgf, Qas, Qgr, Qgq, Qgv, Qdl, Qhk, Qhi, Qhh, decide_true, if_true, List.drop_zero, List.drop_succ_cons, List.length_cons, List.length_nil, Nat.zero_add, Bool.and_true, List.nil_append, List.cons_append, Nat.reduceAdd, oLoad_ptr, oStore_ptr, le_s, Nat.le_refl, Nat.zero_le, or_true, and_self, hp, hs, he, h0, r_blank, hbl, n0, hk', hbk, wrap_nat (show a + k < 4611686018427387904 by omega), i1]
              · rw [i2, hd2]; simp only [Rd.roomN, h1, h2, hdk, hd2, h3, if_neg (show ¬ k = 0 by omega)]; rfl

theorem r_skip {p : Nat} {S : List UInt8} {a : Nat} {H : Heap} (hs : RfAt H p S a 0) (hl : S.length < 60000) (ha : a ≤ S.length) :
    ∃ a', E n_ref03_reader_skip [.ptr p 0 0] H = some (.ret (.bool (decide ((Rd.room (S.drop a)).length < (S.drop a).length))), rfSet H p S a' 0) ∧ S.drop a' = Rd.room (S.drop a) ∧ a' ≤ S.length := by
  obtain ⟨a', i1, i2, i3, i4⟩ := r_skip_l hl (base := H.length) (fr := a) (S.drop a).length hs rfl (Nat.le_refl _) ha (Nat.le_refl _)
  refine ⟨a', ?_, i2, i3⟩
  rw [ref03_reader_skip_E, ref03_reader_skip_eq]
  have hb : decide ((Rd.room (S.drop a)).length < (S.drop a).length) = decide (a < a') := by
    have : (Rd.room (S.drop a)).length = S.length - a' := by
      have := congrArg List.length i2
      rw [List.length_drop] at this
      exact this.symm
    rw [Bool.eq_iff_iff]; simp only [decide_eq_true_eq]
    rw [this, List.length_drop]; omega
  rw [hb]
  simp (maxDischargeDepth := 9) only [Qah, Qfr, Qew, Qdc, Qhm, List.drop_zero, List.drop_succ_cons, Nat.zero_add, oLoad_ptr, hs, i1]
theorem r_skip_e {p : Nat} {S : List UInt8} {a : Nat} {e : Int} {H : Heap} (hs : RfAt H p S a e) (he : e ≠ 0) : E n_ref03_reader_skip [.ptr p 0 0] H = some (.ret (.bool false), H) := by
  rw [ref03_reader_skip_E, ref03_reader_skip_eq]
  simp (maxDischargeDepth := 9) only [Qah, Qfr, Qew, Qdc, Qhm, List.drop_zero, List.drop_succ_cons, Nat.zero_add, oLoad_ptr, hs]
  rw [ref03_reader_skip_l1_eq]
  simp (maxDischargeDepth := 9) only [Qah, Qbd, Qfp, Qfr, Qew, Qee, Qda, Qdc, Qhm, Qgf, decide_false, List.drop_zero, List.drop_succ_cons, Nat.zero_add, oLoad_ptr, oStore_ptr, hs, he]

/-- A name: the loop, once there is a letter. -/
theorem r_name_l {p : Nat} {S : List UInt8} (hl : S.length < 60000) {base : Nat} {e : Int} : ∀ (r : List UInt8) {a : Nat} {acc : List UInt8} {H : Heap}, RfAt H p S a e → base = H.length → S.drop a = r → a ≤ 1000000 → acc ≠ [] → acc.length + r.length < 1000000 →
    ref03_reader_name_l1 base (.ptr p 0 0) (.str acc) (.int .i64 (hd r)) H = ref03_reader_name_j2 base (.ptr p 0 0) (.str (acc ++ Rd.small (r.takeWhile Rd.isName))) (rfSet H p S (a + (r.takeWhile Rd.isName).length) e)
  | [], a, acc, H, hs, hb, hd0, ha, h0, hal => by
    subst hb
    rw [ref03_reader_name_l1_eq]
    have n1 : alphaI (hd []) = false := by decide
    have n2 : digitI (hd []) = false := by decide
    have n3 : ¬ (hd [] = 45) := by decide
    simp (maxDischargeDepth := 9) only [Qah, Qab, Qbd, Qcl, Qfp, Qfu, Qft, Qfr, Qew, Qfb, Qee, Qem, Qen, decide_false, Bool.not_false, List.length_nil, Nat.add_zero, Nat.zero_add, List.append_nil, oLoad_ptr, oStore_ptr, r_alpha, r_digit, n1, n2, n3, h0, List.takeWhile_nil, Rd.small, List.map_nil, rfSet, hset_self hs]
  | c :: r, a, acc, H, hs, hb, hd0, ha, h0, hal => by
    subst hb
    have hp := hget_lt hs
    obtain ⟨g1, g2, g3⟩ := drop_cons hd0
    have n1 := alpha_hd (c :: r)
    have n2 := digit_hd (c :: r)
    have n3 := hd_eq (c :: r) 45
    simp only [Qam, hdP] at n1 n2 n3
    simp only [Rd.headIs] at n3
    have step : Rd.isName c = true → (∀ rest, ref03_reader_name_l1 H.length (.ptr p 0 0) (.str (acc ++ [Rd.smallB c])) (.int .i64 (hd r)) (rfSet H p S (a + 1) e) = rest → rest = ref03_reader_name_j2 H.length (.ptr p 0 0) (.str (acc ++ Rd.small ((c :: r).takeWhile Rd.isName))) (rfSet H p S (a + ((c :: r).takeWhile Rd.isName).length) e)) := by
      intro hn rest hr
      rw [← hr, r_name_l hl r (a := a + 1) (acc := acc ++ [Rd.smallB c]) (H := rfSet H p S (a + 1) e) (rf_s hp) (by simp) g2 (by omega) (by simp) (by simp at hal ⊢; omega)]
      rw [List.takeWhile_cons, if_pos hn]
      simp only [Rd.small, List.map_cons, List.append_assoc, List.cons_append, List.nil_append, List.length_cons, rfSet, Qcs]
      rw [show a + 1 + (List.takeWhile Rd.isName r).length = a + ((List.takeWhile Rd.isName r).length + 1) by omega]
    have w : IntKind.u8.wrap (hd (c :: r)) = c.toNat := by have := c.toNat_lt; exact wrap_u8 (by simp [hd]) (by simp [hd]; omega)
    have tx : ∀ H' : Heap, oText H' (.vs [.int .u8 (Rd.smallB c).toNat]) = some (.str [Rd.smallB c]) := by
      intro H'; rw [oText_eq]; simp [rText, slCells, allLen, flat, bytesOf]
    have cat : oBin .add 6 (.str acc) (.str [Rd.smallB c]) = some (.str (acc ++ [Rd.smallB c])) := oBin_cat _ _ _ (by simp at hal ⊢; omega)
    have h1 := r_at (H := rfSet H p S (a + 1) e) (rf_s hp) hl 0 (by omega)
    simp only [Qam, Nat.add_zero, g2] at h1
    have go : Rd.isName c = true → (reader : Prop) → reader = True → True := fun _ _ _ => trivial
    clear go
    rw [ref03_reader_name_l1_eq]
    cases hL : Rd.isLetter c with
    | true =>
      rw [hL] at n1
      have hn : Rd.isName c = true := by simp [Rd.isName, hL]
      have hstep := step hn _ rfl
      simp (maxDischargeDepth := 9) only [Qah, Qag, Qab, Qbe, Qcj, Qck, Qfp, Qfu, Qfr, Qew, Qfb, Qea, Qem, Qdc, Qhm, Qas, Qgr, Qgq, Qgv, Qdl, Qhk, Qhi, Qhh, Qfi, if_true, List.drop_zero, List.drop_succ_cons, List.length_cons, List.length_nil, Nat.zero_add, Bool.and_true, List.nil_append, List.cons_append, Nat.reduceAdd, oLoad_ptr, oStore_ptr, le_s, Nat.le_refl, Nat.zero_le, or_true, and_self, hp, hs, r_alpha, r_digit, n1, w, r_lower, tx, cat, wrap_succ (show a < 4611686018427387904 by omega), h1, hstep]
    | false =>
      rw [hL] at n1
      cases hD : Rd.isDigit c with
      | true =>
        rw [hD] at n2
        have hn : Rd.isName c = true := by simp [Rd.isName, hD]
        have hstep := step hn _ rfl
        simp (maxDischargeDepth := 9) only [Qah, Qag, Qab, Qbe, Qbd, Qcl, Qcj, Qfp, Qfu, Qft, Qfr, Qew, Qfb, Qea, Qem, Qen, Qdc, Qhm, Qas, Qgr, Qgq, Qgv, Qdl, Qhk, Qhi, Qhh, Qfi, decide_false, Bool.not_false, if_true, List.drop_zero, List.drop_succ_cons, List.length_cons, List.length_nil, Nat.zero_add, Bool.and_true, List.nil_append, List.cons_append, Nat.reduceAdd, oLoad_ptr, oStore_ptr, le_s, Nat.le_refl, Nat.zero_le, or_true, and_self, hp, hs, r_alpha, r_digit, n1, n2, h0, w, r_lower, tx, cat, wrap_succ (show a < 4611686018427387904 by omega), h1, hstep]
      | false =>
        rw [hD] at n2
        cases h45 : (c.toNat == 45) with
        | true =>
          rw [h45] at n3
          have hn : Rd.isName c = true := by simp [Rd.isName, h45]
          have hstep := step hn _ rfl
          simp (maxDischargeDepth := 9) only [Qah, Qag, Qab, Qbe, Qbd, Qcl, Qfp, Qfu, Qft, Qfr, Qew, Qfb, Qea, Qee, Qem, Qen, Qdc, Qhm, Qas, Qgr, Qgq, Qgv, Qdl, Qhk, Qhi, Qhh, Qfi, decide_false, Bool.not_false, if_true, List.drop_zero, List.drop_succ_cons, List.length_cons, List.length_nil, Nat.zero_add, Bool.and_true, List.nil_append, List.cons_append, Nat.reduceAdd, oLoad_ptr, oStore_ptr, le_s, Nat.le_refl, Nat.zero_le, or_true, and_self, hp, hs, r_alpha, r_digit, n1, n2, n3, h0, w, r_lower, tx, cat, wrap_succ (show a < 4611686018427387904 by omega), h1, hstep]
        | false =>
          rw [h45] at n3
          have hn : Rd.isName c = false := by simp [Rd.isName, hL, hD, h45]
          simp (maxDischargeDepth := 9) only [Qah, Qab, Qbd, Qcl, Qfp, Qfu, Qft, Qfr, Qew, Qfb, Qee, Qem, Qen, decide_false, Bool.not_false, if_false, List.length_nil, Nat.add_zero, Nat.zero_add, Bool.false_eq_true, List.append_nil, oLoad_ptr, oStore_ptr, hp, hs, r_alpha, r_digit, n1, n2, n3, h0, List.takeWhile_cons, hn, Rd.small, List.map_nil, rfSet, hset_self hs]
theorem r_name_2 {p : Nat} {S : List UInt8} {a : Nat} {e : Int} {t : List UInt8} {H : Heap} (hs : RfAt H p S a e) : ref03_reader_name_j2 H.length (.ptr p 0 0) (.str t) H = some (.ret (.str t), rfSet H p S a (if 40 < t.length ∧ e = 0 then 2 else e)) := by
  rw [ref03_reader_name_j2_eq]
  by_cases h : 40 < t.length
  · have h' : (40 : Int) < t.length := by omega
    simp (maxDischargeDepth := 9) only [Qah, Qab, Qbe, Qfg, Qeg, Qda, Qgl, Qcv, decide_true, true_and, h', r_fail hs, ref03_reader_name_j3_eq, rfSet, h]
  · have h' : ¬ (40 : Int) < t.length := by omega
    simp (maxDischargeDepth := 9) only [Qah, Qbd, Qfg, Qeg, Qda, Qgl, decide_false, if_false, false_and, h', ref03_reader_name_j3_eq, rfSet, h, hset_self hs]
theorem r_name : RfC n_ref03_reader_name [] V.str 0 Rd.name := by
  intro p S a e B H hs hl ha hB he
  have hp := hget_lt hs
  have h0 := r_at hs hl 0 (by omega)
  simp only [Qam, Nat.add_zero] at h0
  have n1 := alpha_hd (S.drop a)
  have n2 := digit_hd (S.drop a)
  have bad : hdP Rd.isLetter (S.drop a) = false → ∃ x a' e', E n_ref03_reader_name [.ptr p 0 0] H = some (.ret (.str x), rfSet H p S a' e') ∧ a' ≤ S.length + B + 0 ∧ Rel S (startR Rd.name S a e) x a' e' := by
    intro hb
    rw [hb] at n1
    refine ⟨[], a, if e = 0 then 20 else e, ?_, by omega, ?_⟩
    · have hf := r_fail hs 20
      have j := r_name_2 (t := []) (H := rfSet H p S a (if e = 0 then 20 else e)) (rf_s hp)
      simp only [rfSet, hset_length, Qcs] at j hf
      rw [ref03_reader_name_E, ref03_reader_name_eq]
      simp (maxDischargeDepth := 9) only [Qab, h0]
      rw [ref03_reader_name_l1_eq]
      simp (maxDischargeDepth := 9) only [Qah, Qab, Qbe, Qbd, Qcl, Qci, Qck, Qfp, Qft, Qfr, Qew, Qfb, Qem, Qen, decide_true, Bool.not_true, List.length_nil, Nat.zero_add, oLoad_ptr, oStore_ptr, r_alpha, n1, hf, j]
      simp
    · unfold startR
      split
      · have : ∃ s', Rd.name (S.drop a) = .err 20 s' := by
          unfold Rd.name
          cases hd0 : S.drop a with
          | nil => exact ⟨_, rfl⟩
          | cons c r => rw [hd0] at hb; simp only [hdP] at hb; simp [hb]
        obtain ⟨s', h⟩ := this
        rw [h]
        exact ⟨by simp_all, by omega⟩
      · exact ⟨by simp_all, by assumption⟩
  cases hd0 : S.drop a with
  | nil => exact bad (by rw [hd0]; rfl)
  | cons c r =>
    cases hL : Rd.isLetter c with
    | false => exact bad (by rw [hd0]; exact hL)
    | true =>
      rw [hd0] at h0 n1 n2
      simp only [hdP, hL] at n1
      obtain ⟨g1, g2, g3⟩ := drop_cons hd0
      have hrl : r.length < 60000 := by rw [← g2]; simp; omega
      have hn : Rd.isName c = true := by simp [Rd.isName, hL]
      have w : IntKind.u8.wrap (hd (c :: r)) = c.toNat := by have := c.toNat_lt; exact wrap_u8 (by simp [hd]) (by simp [hd]; omega)
      have tx : ∀ H' : Heap, oText H' (.vs [.int .u8 (Rd.smallB c).toNat]) = some (.str [Rd.smallB c]) := by
        intro H'; rw [oText_eq]; simp [rText, slCells, allLen, flat, bytesOf]
      have cat : oBin .add 6 (.str []) (.str [Rd.smallB c]) = some (.str [Rd.smallB c]) := oBin_cat _ _ _ (by simp)
      have h1 := r_at (H := rfSet H p S (a + 1) e) (rf_s hp) hl 0 (by omega)
      simp only [Qam, Nat.add_zero, g2] at h1
      have lp := r_name_l (H := rfSet H p S (a + 1) e) (base := H.length) hl r (acc := [Rd.smallB c]) (rf_s hp) (by simp) g2 (by omega) (by simp) (by simp; omega)
      have htw : (c :: r).takeWhile Rd.isName = c :: r.takeWhile Rd.isName := by rw [List.takeWhile_cons, if_pos hn]
      have hdw : (c :: r).dropWhile Rd.isName = r.dropWhile Rd.isName := by rw [List.dropWhile_cons, if_pos hn]
      have htl := takeWhile_le Rd.isName r
      have j := r_name_2 (t := [Rd.smallB c] ++ Rd.small (r.takeWhile Rd.isName)) (H := rfSet H p S (a + 1 + (r.takeWhile Rd.isName).length) e) (rf_s hp)
      simp only [rfSet, hset_length, Qcs] at j lp h1
      have hrlen : r.length = S.length - (a + 1) := by rw [← g2]; simp
      refine ⟨[Rd.smallB c] ++ Rd.small (r.takeWhile Rd.isName), a + 1 + (r.takeWhile Rd.isName).length, (if 40 < ([Rd.smallB c] ++ Rd.small (r.takeWhile Rd.isName)).length ∧ e = 0 then 2 else e), ?_, by omega, ?_⟩
      · rw [ref03_reader_name_E, ref03_reader_name_eq]
        simp (maxDischargeDepth := 9) only [Qab, List.length_cons, List.nil_append, List.cons_append, h0]
        rw [ref03_reader_name_l1_eq]
        simp (maxDischargeDepth := 9) only [Qah, Qag, Qab, Qbe, Qcj, Qck, Qfp, Qfu, Qfr, Qew, Qfb, Qea, Qem, Qdc, Qhm, Qas, Qgr, Qgq, Qgv, Qdl, Qhk, Qhi, Qhh, Qfi, decide_true, if_true, List.drop_zero, List.drop_succ_cons, List.length_cons, List.length_nil, Nat.zero_add, Bool.and_true, List.nil_append, List.cons_append, Nat.reduceAdd, oLoad_ptr, oStore_ptr, le_s, Nat.le_refl, Nat.zero_le, or_true, and_self, hp, hs, r_alpha, n1, w, r_lower, tx, cat, wrap_succ (show a < 4611686018427387904 by omega), h1, lp]
        exact j
      · unfold startR
        have hsl : ([Rd.smallB c] ++ Rd.small (r.takeWhile Rd.isName)).length = ((c :: r).takeWhile Rd.isName).length := by rw [htw]; simp [Rd.small]
        rw [hsl]
        by_cases h0e : e = 0
        · rw [if_pos h0e, hd0]
          unfold Rd.name
          simp only [hL, if_true]
          by_cases h40 : ((c :: r).takeWhile Rd.isName).length ≤ 40
          · rw [if_pos h40, if_neg (by omega)]
            refine ⟨by rw [htw]; simp [Rd.small], ?_, by omega, h0e⟩
            rw [hdw, ← drop_take_while, ← g2, List.drop_drop]
          · rw [if_neg h40, if_pos ⟨by omega, h0e⟩]
            exact ⟨rfl, by omega⟩
        · rw [if_neg h0e, if_neg (by simp [h0e])]
          exact ⟨rfl, h0e⟩

/-! Numbers. -/
def numV (r : Nat × Bool) : V := .int .i64 (if r.2 then (r.1 : Int) else -1)
theorem hd_or (c : UInt8) (r : List UInt8) : IntKind.i64.wrap ((BitVec.ofInt IntKind.i64.bits (hd (c :: r)) ||| BitVec.ofInt IntKind.i64.bits 32).toNat : Int) = ((c.toNat ||| 32 : Nat) : Int) := by
  have hc := c.toNat_lt
  have h1 : (BitVec.ofInt IntKind.i64.bits (hd (c :: r)) ||| BitVec.ofInt IntKind.i64.bits 32).toNat = c.toNat ||| 32 := by
    have e1 : BitVec.ofInt 64 (c.toNat : Int) = BitVec.ofNat 64 c.toNat := by
      apply BitVec.eq_of_toNat_eq; simp
    show (BitVec.ofInt 64 (c.toNat : Int) ||| BitVec.ofInt 64 32).toNat = c.toNat ||| 32
    rw [e1]
    simp [BitVec.toNat_or]
  rw [h1]
  have h2 : c.toNat ||| 32 < 256 := Nat.or_lt_two_pow (n := 8) hc (by omega)
  exact wrap_i64 (by omega) (by omega)
theorem digit_99 (c : UInt8) (h1 : Rd.isDigit c = false) (h2 : Rd.isLetter c = false) : Rd.digit c = 99 := by
  simp [Rd.isLetter] at h2
  simp only [Rd.digit, h1]
  rw [if_neg (by simp), if_neg (by omega), if_neg (by omega)]
theorem digit_letter (c : UInt8) (h1 : Rd.isDigit c = false) (h2 : Rd.isLetter c = true) : Rd.digit c = (if (c.toNat ||| 32) ≤ 102 then (c.toNat ||| 32) - 87 else 99) ∧ 97 ≤ c.toNat ||| 32 ∧ c.toNat ||| 32 ≤ 122 := by
  have hc := c.toNat_lt
  have h3 : (97 ≤ c.toNat ∧ c.toNat ≤ 122) ∨ (65 ≤ c.toNat ∧ c.toNat ≤ 90) := by simpa [Rd.isLetter] using h2
  have ho : c.toNat ||| 32 = if 97 ≤ c.toNat then c.toNat else c.toNat + 32 := by
    rcases h3 with h3 | h3
    · rw [or32_lower _ hc h3.1 h3.2, if_pos h3.1]
    · rw [or32_upper _ hc h3.1 h3.2, if_neg (by omega)]
  refine ⟨?_, by rw [ho]; split <;> omega⟩
  rw [ho]
  simp only [Rd.digit, h1, Bool.false_eq_true, if_false]
  rcases h3 with h3 | h3
  · by_cases h4 : c.toNat ≤ 102
    · rw [if_pos ⟨h3.1, h4⟩, if_pos h3.1, if_pos h4]
    · rw [if_neg (by omega), if_neg (by omega), if_pos h3.1, if_neg h4]
  · rw [if_neg (by omega), if_neg (by omega : ¬ 97 ≤ c.toNat)]
    by_cases h4 : c.toNat ≤ 70
    · rw [if_pos ⟨h3.1, h4⟩, if_pos (by omega)]; omega
    · rw [if_neg (by omega), if_neg (by omega)]

/-- What the digit here is worth. -/
def digI (s : List UInt8) : Int :=
  match s with
  | [] => 99
  | c :: _ => Rd.digit c
/-- A number: one round comes to what the digit is worth. -/
theorem r_number_d {p : Nat} {S : List UInt8} {a b m : Nat} {n0 : Int} {H : Heap} (hs : RfAt H p S a 0) (hl : S.length < 60000) (ha : a ≤ S.length) :
    ref03_reader_number_l1 H.length (.ptr p 0 0) (.int .i64 b) (.int .i64 m) (.int .i64 n0) H =
      ref03_reader_number_j2 H.length (.ptr p 0 0) (.int .i64 b) (.int .i64 m) (.int .i64 n0) (.int .i64 (digI (S.drop a))) H := by
  have h0 := r_at hs hl 0 (by omega)
  simp only [Qam, Nat.add_zero] at h0
  have n1 := alpha_hd (S.drop a)
  have n2 := digit_hd (S.drop a)
  rw [ref03_reader_number_l1_eq]
  cases hd0 : S.drop a with
  | nil =>
    rw [hd0] at h0 n1 n2
    simp only [hdP] at n1 n2
    simp (maxDischargeDepth := 9) only [Qah, Qab, Qbe, Qbd, Qci, Qfp, Qft, Qfr, Qew, Qeo, Qee, Qel, Qda, Qdc, Qhm, Qgh, decide_true, List.drop_zero, List.drop_succ_cons, Nat.zero_add, oLoad_ptr, hs, h0, r_digit, r_alpha, n1, n2, digI]
  | cons c r =>
    rw [hd0] at h0 n1 n2
    simp only [hdP] at n1 n2
    have hc := c.toNat_lt
    rw [show digI (c :: r) = (Rd.digit c : Int) from rfl]
    cases h1 : Rd.isDigit c with
    | true =>
      rw [h1] at n2
      have h2 : 48 ≤ c.toNat ∧ c.toNat ≤ 57 := by simpa [Rd.isDigit] using h1
      have w : IntKind.i64.wrap (hd (c :: r) - 48) = (Rd.digit c : Int) := by
        show IntKind.i64.wrap ((c.toNat : Int) - 48) = _
        rw [wrap_i64 (by omega) (by omega)]
        simp only [Rd.digit, h1, if_true]; omega
      simp (maxDischargeDepth := 9) only [Qah, Qab, Qbe, Qfp, Qfr, Qew, Qeo, Qee, Qel, Qda, Qdc, Qhm, Qgh, decide_true, List.drop_zero, List.drop_succ_cons, Nat.zero_add, oLoad_ptr, hs, h0, r_digit, n2, w]
    | false =>
      rw [h1] at n2
      cases h2 : Rd.isLetter c with
      | false =>
        rw [h2] at n1
        rw [digit_99 c h1 h2]
        simp (maxDischargeDepth := 9) only [Qah, Qab, Qbe, Qbd, Qci, Qfp, Qft, Qfr, Qew, Qeo, Qee, Qel, Qda, Qdc, Qhm, Qgh, Qam, decide_true, List.drop_zero, List.drop_succ_cons, Nat.zero_add, oLoad_ptr, hs, h0, r_digit, r_alpha, n1, n2]
      | true =>
        rw [h2] at n1
        obtain ⟨e1, e2, e3⟩ := digit_letter c h1 h2
        have ho := hd_or c r
        rw [e1]
        generalize c.toNat ||| 32 = q at *
        by_cases h4 : q ≤ 102
        · have h5 : (q : Int) ≤ 102 := by omega
          have w1 : IntKind.i64.wrap ((q : Int) - 87) = ((q - 87 : Nat) : Int) := by rw [wrap_i64 (by omega) (by omega)]; omega
          simp (maxDischargeDepth := 9) only [Qah, Qab, Qbe, Qbd, Qcl, Qfp, Qfu, Qfr, Qew, Qeo, Qee, Qeh, Qel, Qda, Qdc, Qhm, Qgh, decide_true, List.drop_zero, List.drop_succ_cons, Nat.zero_add, oLoad_ptr, hs, h0, r_digit, r_alpha, n1, n2, ho, h5, w1]
          simp only [h4, if_true]
        · have h5 : ¬ (q : Int) ≤ 102 := by omega
          simp (maxDischargeDepth := 9) only [Qah, Qab, Qbe, Qbd, Qcl, Qfp, Qfu, Qfr, Qew, Qeo, Qee, Qeh, Qel, Qda, Qdc, Qhm, Qgh, decide_true, decide_false, List.drop_zero, List.drop_succ_cons, Nat.zero_add, oLoad_ptr, hs, h0, r_digit, r_alpha, n1, n2, ho, h5]
          simp only [h4, if_false, Qam]


theorem r_number_l {p b m : Nat} {S : List UInt8} (hl : S.length < 60000) (hb : b ≤ 90) (hm : m ≤ 10000000) {base : Nat} : ∀ (r : List UInt8) {n : Nat} {ok : Bool} {a : Nat} {H : Heap}, RfAt H p S a 0 → base = H.length → S.drop a = r → a ≤ S.length → n ≤ m → (ok = false → n = 0) →
    ∃ x a' e', ref03_reader_number_l1 base (.ptr p 0 0) (.int .i64 b) (.int .i64 m) (.int .i64 (if ok then (n : Int) else -1)) H = some (.ret (numV x), rfSet H p S a' e') ∧ a' ≤ S.length ∧ Rel S (Rd.numberL b m n ok r) x a' e'
  | r, n, ok, a, H, hs, hB, hd0, ha, hn, hok => by
    subst hB
    have hp := hget_lt hs
    have hd1 := r_number_d (b := b) (m := m) (n0 := if ok then (n : Int) else -1) hs hl ha
    rw [hd0] at hd1
    have stop : ref03_reader_number_j2 H.length (.ptr p 0 0) (.int .i64 b) (.int .i64 m) (.int .i64 (if ok then (n : Int) else -1)) (.int .i64 (digI r)) H = some (.ret (numV (n, ok)), H) → Rd.numberL b m n ok r = .ok (n, ok) r →
        ∃ x a' e', ref03_reader_number_l1 H.length (.ptr p 0 0) (.int .i64 b) (.int .i64 m) (.int .i64 (if ok then (n : Int) else -1)) H = some (.ret (numV x), rfSet H p S a' e') ∧ a' ≤ S.length ∧ Rel S (Rd.numberL b m n ok r) x a' e' := by
      intro h1 h2
      refine ⟨(n, ok), a, 0, ?_, ha, ?_⟩
      · rw [hd1, h1, rfSet, hset_self hs]
      · rw [h2]; exact ⟨rfl, hd0, ha, rfl⟩
    cases r with
    | nil =>
      refine stop ?_ rfl
      rw [ref03_reader_number_j2_eq, show digI [] = 99 from rfl]
      have n1 : (b : Int) ≤ 99 := by omega
      simp (maxDischargeDepth := 9) only [Qah, Qbe, Qea, Qej, Qeg, Qef, Qda, Qgh, Qfm, decide_true, n1, numV]
    | cons c r =>
      obtain ⟨g1, g2, g3⟩ := drop_cons hd0
      rw [show digI (c :: r) = (Rd.digit c : Int) from rfl] at hd1 stop
      by_cases h1 : Rd.digit c < b
      · have n1 : ¬ (b : Int) ≤ (Rd.digit c : Int) := by omega
        have hmx : (if (if ok then (n : Int) else -1) < 0 then 0 else (if ok then (n : Int) else -1)) = (n : Int) := by
          cases ok with
          | true => simp; omega
          | false => simp [hok rfl]
        have hnb : n * b ≤ 10000000 * 90 := Nat.mul_le_mul (by omega) hb
        have w1 : IntKind.i64.wrap ((n : Int) * (b : Int)) = ((n * b : Nat) : Int) := by rw [← Int.natCast_mul]; exact wrap_i64 (by omega) (by omega)
        have w2 : IntKind.i64.wrap (((n * b : Nat) : Int) + (Rd.digit c : Int)) = ((n * b + Rd.digit c : Nat) : Int) := by rw [wrap_i64 (by omega) (by omega)]; omega
        rw [Rd.numberL, if_pos h1]
        by_cases h3 : n * b + Rd.digit c ≤ m
        · have h4 : ¬ (m : Int) < ((n * b + Rd.digit c : Nat) : Int) := by omega
          obtain ⟨x, a', e', i1, i2, i3⟩ := r_number_l hl hb hm (base := H.length) r (n := n * b + Rd.digit c) (ok := true) (a := a + 1) (H := rfSet H p S (a + 1) 0) (rf_s hp) (by simp) g2 (by omega) h3 (by simp)
          rw [if_pos h3]
          refine ⟨x, a', e', ?_, i2, i3⟩
          rw [hd1, ref03_reader_number_j2_eq]
          simp only [rfSet, Qcs, if_true] at i1
          simp (maxDischargeDepth := 9) only [Qah, Qag, Qbd, Qfr, Qew, Qea, Qej, Qeg, Qef, Qda, Qdc, Qhm, Qgh, Qas, Qgr, Qgq, Qgv, Qdl, Qhk, Qhi, Qhh, Qfm, decide_false, if_true, List.drop_zero, List.drop_succ_cons, List.length_cons, List.length_nil, Nat.zero_add, Bool.and_true, List.nil_append, List.cons_append, Nat.reduceAdd, oLoad_ptr, oStore_ptr, le_s, Nat.le_refl, Nat.zero_le, or_true, and_self, n1, hmx, w1, w2, h4, ref03_reader_number_j3_eq, hs, hp, wrap_succ (show a < 4611686018427387904 by omega), i1]
        · have h4 : (m : Int) < ((n * b + Rd.digit c : Nat) : Int) := by omega
          rw [if_neg h3]
          refine ⟨(0, false), a + 1, 2, ?_, by omega, ⟨rfl, by omega⟩⟩
          rw [hd1, ref03_reader_number_j2_eq]
          have hf := r_fail hs 2
          simp only [if_true, rfSet] at hf
          simp (maxDischargeDepth := 9) only [Qah, Qag, Qab, Qbe, Qbd, Qfr, Qew, Qea, Qej, Qeg, Qef, Qda, Qdc, Qhm, Qgh, Qas, Qgr, Qgq, Qgv, Qdl, Qhk, Qhi, Qhh, Qco, Qcs, Qfm, decide_true, decide_false, if_true, List.drop_zero, List.drop_succ_cons, List.length_cons, List.length_nil, Nat.zero_add, Bool.and_true, List.nil_append, List.cons_append, Nat.reduceAdd, oLoad_ptr, oStore_ptr, le_s, Nat.le_refl, Nat.zero_le, or_true, and_self, n1, hmx, w1, w2, h4, hf, ref03_reader_number_j3_eq, hs, hp, wrap_succ (show a < 4611686018427387904 by omega)]
          rw [ref03_reader_number_l1_eq]
          have n2 : ¬ (2 : Int) = 0 := by omega
          simp (maxDischargeDepth := 9) only [Qah, Qbd, Qfp, Qfr, Qew, Qee, Qdc, Qhm, Qgh, Qcv, Qam, Qco, decide_false, if_false, List.drop_zero, List.drop_succ_cons, Nat.zero_add, Bool.false_eq_true, oLoad_ptr, hp, n2, numV, rfSet]
      · have n1 : (b : Int) ≤ (Rd.digit c : Int) := by omega
        refine stop ?_ (by simp [Rd.numberL, h1])
        rw [ref03_reader_number_j2_eq]
        simp (maxDischargeDepth := 9) only [Qah, Qbe, Qea, Qej, Qeg, Qef, Qda, Qgh, Qfm, decide_true, n1, numV]
theorem r_number {b m : Nat} (hb : b ≤ 90) (hm : m ≤ 10000000) : RfC n_ref03_reader_number [.int .i64 b, .int .i64 m] numV 0 (Rd.number b m) := by
  intro p S a e B H hs hl ha hB he
  rw [ref03_reader_number_E, ref03_reader_number_eq]
  unfold startR
  by_cases h0 : e = 0
  · subst h0
    obtain ⟨x, a', e', i1, i2, i3⟩ := r_number_l hl hb hm (base := H.length) (S.drop a) (n := 0) (ok := false) hs rfl rfl (he rfl) (Nat.zero_le _) (fun _ => rfl)
    rw [if_pos rfl]
    exact ⟨x, a', e', i1, by omega, i3⟩
  · rw [if_neg h0]
    refine ⟨(0, false), a, e, ?_, by omega, ⟨rfl, h0⟩⟩
    rw [ref03_reader_number_l1_eq]
    simp (maxDischargeDepth := 9) only [Qah, Qbd, Qfp, Qfr, Qew, Qee, Qda, Qdc, Qhm, Qgh, Qam, decide_false, if_false, List.drop_zero, List.drop_succ_cons, Nat.zero_add, Bool.false_eq_true, oLoad_ptr, hs, h0, numV, rfSet, hset_self hs]

def needF (b : Nat) (s : List UInt8) : Rd.Res Int := (Rd.value b s).bind fun v s' => .ok (v : Int) s'
theorem needF_err {b : Nat} {s s' : List UInt8} {c : Int} (h : Rd.number b 1114111 s = .err c s') : needF b s = .err c s' := by simp [needF, Rd.value, h, Rd.Res.bind]
theorem needF_t {b n : Nat} {s s' : List UInt8} (h : Rd.number b 1114111 s = .ok (n, true) s') : needF b s = .ok (n : Int) s' := by simp [needF, Rd.value, h, Rd.Res.bind]
theorem needF_f {b n : Nat} {s s' : List UInt8} (h : Rd.number b 1114111 s = .ok (n, false) s') : needF b s = .err 20 s' := by simp [needF, Rd.value, h, Rd.Res.bind]
def intV (n : Int) : V := .int .i64 n
theorem r_need {b : Nat} (hb : b ≤ 90) : RfC n_ref03_reader_need [.int .i64 b] intV 0 (needF b) := by
  intro p S a e B H hs hl ha hB he
  have hp := hget_lt hs
  obtain ⟨x, a', e', i1, i2, i3⟩ := r_number (m := 1114111) hb (by omega) hs hl ha hB he
  simp only [Qam, rfSet] at i1
  rw [ref03_reader_need_E, ref03_reader_need_eq]
  obtain ⟨n, ok⟩ := x
  have hf := r_fail (H := rfSet H p S a' e') (rf_s hp) 20
  simp only [rfSet, Qcs] at hf
  unfold startR at i3 ⊢
  cases ok with
  | true =>
    have n0 : ¬ (n : Int) < 0 := by omega
    refine ⟨n, a', e', ?_, i2, ?_⟩
    · simp (maxDischargeDepth := 9) only [Qah, Qab, Qbd, Qei, Qgh, Qcv, decide_false, if_true, i1, numV, n0, ref03_reader_need_j1_eq, intV]
    · by_cases h0 : e = 0
      · rw [if_pos h0] at i3 ⊢
        cases hval : Rd.number b 1114111 (S.drop a) with
        | err c s => rw [hval] at i3; rw [needF_err hval]; exact ⟨i3.1, i3.2⟩
        | ok y s =>
          rw [hval] at i3
          obtain ⟨j1, j2, j3, j4⟩ := i3
          subst j1
          rw [needF_t hval]
          exact ⟨rfl, j2, j3, j4⟩
      · rw [if_neg h0] at i3 ⊢
        exact ⟨i3.1, i3.2⟩
  | false =>
    have n0 : (-1 : Int) < 0 := by omega
    refine ⟨-1, a', if e' = 0 then 20 else e', ?_, i2, ?_⟩
    · simp (maxDischargeDepth := 9) only [Qah, Qab, Qbe, Qei, Qgh, Qcv, decide_true, if_false, Bool.false_eq_true, i1, numV, n0, ref03_reader_need_j1_eq, hf, intV]
    · by_cases h0 : e = 0
      · rw [if_pos h0] at i3 ⊢
        cases hval : Rd.number b 1114111 (S.drop a) with
        | err c s => rw [hval] at i3; rw [needF_err hval]; exact ⟨by simp [i3.1, i3.2], i3.2⟩
        | ok y s =>
          rw [hval] at i3
          obtain ⟨j1, j2, j3, j4⟩ := i3
          subst j1
          rw [needF_f hval]
          exact ⟨by simp [j4], by omega⟩
      · rw [if_neg h0] at i3 ⊢
        exact ⟨by simp [i3.1, h0], h0⟩
end Go.Proofs.YthcjjicplodhjaaDoor
end

