/- Pc: a part of the proof that each law of this seat answers true at every input. No condition. -/
import Derived.Test.YthcjjicplodhjaaDoorPb
import Derived.Test.YthcjjicplodhjaaDoorEnc
import Derived.Test.YthcjjicplodhjaaDoorPa
import Derived.Test.YthcjjicplodhjaaDoorRd
set_option linter.unusedVariables false
set_option linter.unusedSimpArgs false
set_option maxRecDepth 20000
section
/- The document's reader, function by function: rows, ways, brackets. -/
namespace Go.Proofs.YthcjjicplodhjaaDoor
open Go Go.Ev
set_option linter.unusedVariables false
set_option linter.unusedSimpArgs false

/-- From any state; c: where nothing may have failed yet. -/
def RfG {α : Type} (c : Prop) (n : FuncId) (args : List V) (enc : α → V) (w : Nat) (f : List UInt8 → Rd.Res α) : Prop :=
  ∀ {p : Nat} {S : List UInt8} {a : Nat} {e : Int} {H : Heap}, RfAt H p S a e → S.length < 60000 → a ≤ S.length + 10000 → (e = 0 → a ≤ S.length) → (e = 0 → c) →
    ∃ x a' e', E n (.ptr p 0 0 :: args) H = some (.ret (enc x), rfSet H p S a' e') ∧ a' ≤ max a S.length + w ∧ Rel S (startR f S a e) x a' e'
theorem RfG.of_C {α : Type} {c : Prop} {n : FuncId} {args : List V} {enc : α → V} {w : Nat} {f : List UInt8 → Rd.Res α} (h : RfC n args enc w f) : RfG c n args enc w f := by
  intro p S a e H hs hl ha he _
  obtain ⟨x, a', e', i1, i2, i3⟩ := h (B := max a S.length - S.length) hs hl (by omega) (by omega) he
  exact ⟨x, a', e', i1, by omega, i3⟩
theorem RfG.of_1 {α : Type} {c : Prop} {n : FuncId} {args : List V} {enc : α → V} {w : Nat} {f : List UInt8 → Rd.Res α} (h : RfC1 n args enc w f) (h2 : RfE n args enc 0) : RfG c n args enc w f := by
  intro p S a e H hs hl ha he _
  unfold startR
  by_cases h0 : e = 0
  · subst h0
    obtain ⟨x, a', e', i1, i2, i3⟩ := h hs hl (he rfl)
    rw [if_pos rfl]
    exact ⟨x, a', e', i1, by omega, i3⟩
  · obtain ⟨x, a', i1, i2⟩ := h2 hs hl h0 ha
    rw [if_neg h0]
    exact ⟨x, a', e, i1, by omega, rfl, h0⟩
theorem r_numberG {b m : Nat} (hb : b ≤ 90) (hm : m ≤ 10000000) : RfG True n_ref03_reader_number [.int .i64 b, .int .i64 m] numV 0 (Rd.number b m) := RfG.of_C (r_number hb hm)
theorem RfG.of_E {α : Type} {n : FuncId} {args : List V} {enc : α → V} {w : Nat} {f : List UInt8 → Rd.Res α} (h2 : RfE n args enc 0) : RfG False n args enc w f := by
  intro p S a e H hs hl ha he hc
  unfold startR
  obtain ⟨x, a', i1, i2⟩ := h2 hs hl hc ha
  rw [if_neg hc]
  exact ⟨x, a', e, i1, by omega, rfl, hc⟩
theorem Rel.mono {α : Type} {f : List UInt8 → Rd.Res α} {S : List UInt8} {a a' : Nat} {e e' : Int} {x : α} (h : Rel S (startR f S a e) x a' e') (h0 : e' = 0) : e = 0 := by
  by_cases he : e = 0
  · exact he
  · unfold startR at h
    rw [if_neg he] at h
    rw [← h.1, h0]
theorem Rel.at_le {α : Type} {S : List UInt8} {r : Rd.Res α} {x : α} {a : Nat} {e : Int} (h : Rel S r x a e) (he : e = 0) : a ≤ S.length := by
  cases r with
  | ok y s => exact h.2.2.1
  | err c s => exact absurd (h.1.symm.trans he) h.2
theorem r_skip_g {p : Nat} {S : List UInt8} {a : Nat} {e : Int} {H : Heap} (hs : RfAt H p S a e) (hl : S.length < 60000) (ha : e = 0 → a ≤ S.length) :
    ∃ a' b, E n_ref03_reader_skip [.ptr p 0 0] H = some (.ret (.bool b), rfSet H p S a' e) ∧ a' ≤ max a S.length ∧ (e = 0 → S.drop a' = Rd.room (S.drop a) ∧ a' ≤ S.length ∧ b = decide ((Rd.room (S.drop a)).length < (S.drop a).length)) := by
  by_cases h : e = 0
  · subst h
    obtain ⟨a', i1, i2, i3⟩ := r_skip hs hl (ha rfl)
    exact ⟨a', _, i1, by omega, fun _ => ⟨i2, i3, rfl⟩⟩
  · refine ⟨a, false, ?_, by omega, fun h0 => absurd h0 h⟩
    rw [r_skip_e hs h, rfSet, hset_self hs]

theorem num_val (l : Nat × Bool) (h : l.2 = false → l.1 = 0) : (if (if l.2 then (l.1 : Int) else -1) < 0 then 0 else (if l.2 then (l.1 : Int) else -1)) = (l.1 : Int) ∧ ((if l.2 then (l.1 : Int) else -1) < 0 ↔ l.2 = false) := by
  obtain ⟨n, ok⟩ := l
  cases ok with
  | true => simp; omega
  | false =>
    have : n = 0 := h rfl
    subst this; simp
theorem numberL_0 (b m : Nat) : ∀ (s : List UInt8) (n : Nat) (ok : Bool) (r : Nat × Bool) (s' : List UInt8), (ok = false → n = 0) → Rd.numberL b m n ok s = .ok r s' → (r.2 = false → r.1 = 0)
  | [], n, ok, r, s', hn, h => by simp only [Rd.numberL] at h; injection h with h1 h2; subst h1; exact hn
  | c :: t, n, ok, r, s', hn, h => by
    simp only [Rd.numberL] at h
    split at h
    · split at h
      · exact numberL_0 b m t _ _ r s' (by simp) h
      · cases h
    · injection h with h1 h2; subst h1; exact hn
theorem repX_eq {l h : Nat × Bool} {star : Bool} {x : Rd.Expr} (hl : l.2 = false → l.1 = 0) (hh : h.2 = false → h.1 = 0) {s : List UInt8} {S : List UInt8} {a : Nat} (hd0 : S.drop a = s) (ha : a ≤ S.length) :
    Rel S (if !l.2 && !star then Rd.Res.ok x s else if h.2 then (if l.1 ≤ h.1 then .ok (.mk 3 [] [] l.1 h.1 [x]) s else .err 20 s) else .ok (.mk 3 [] [] l.1 (-1) [x]) s)
      (repX (if l.2 then (l.1 : Int) else -1) (if h.2 then (h.1 : Int) else -1) star x) a (repE (if l.2 then (l.1 : Int) else -1) (if h.2 then (h.1 : Int) else -1) star 0) := by
  obtain ⟨e1, e2⟩ := num_val l hl
  unfold repX repE
  obtain ⟨l1, l2⟩ := l
  obtain ⟨h1, h2⟩ := h
  simp only at *
  cases l2 with
  | false =>
    have hl0 : l1 = 0 := hl rfl
    subst hl0
    cases star with
    | false => simp only [Bool.not_false, Bool.and_self, if_true, Bool.false_eq_true, if_false]; exact ⟨by simp, hd0, ha, by simp⟩
    | true =>
      cases h2 with
      | false => exact ⟨by simp, hd0, ha, by simp⟩
      | true =>
        simp only [Bool.not_true, Bool.and_false, Bool.false_eq_true, if_false, if_true, Nat.zero_le]
        exact ⟨by simp, hd0, ha, by simp⟩
  | true =>
    have n0 : ¬ ((l1 : Int) < 0) := by omega
    cases h2 with
    | false => exact ⟨by simp [n0], hd0, ha, by simp [n0]⟩
    | true =>
      simp only [Bool.not_true, Bool.false_and, Bool.false_eq_true, if_false, if_true]
      have n1 : ¬ ((h1 : Int) < 0) := by omega
      by_cases hc : l1 ≤ h1
      · rw [if_pos hc]
        exact ⟨by simp [n0], hd0, ha, by simp [n0, n1, hc]⟩
      · rw [if_neg hc]
        have hc' : ¬ (l1 : Int) ≤ (h1 : Int) := by omega
        exact ⟨by simp [n0, n1, hc'], by omega⟩
theorem repE_ne {lo hi : Int} {star : Bool} {e : Int} (h : e ≠ 0) : repE lo hi star e = e := by unfold repE; rw [if_pos (by simp [h])]

def numI (l : Nat × Bool) : Int := if l.2 then (l.1 : Int) else -1
/-- Behind an error: the error. -/
theorem startR_ne {α : Type} {f : List UInt8 → Rd.Res α} {S : List UInt8} {a : Nat} {e : Int} (h : e ≠ 0) : startR f S a e = .err e [] := if_neg h
theorem startR_0 {α : Type} {f : List UInt8 → Rd.Res α} {S : List UInt8} {a : Nat} : startR f S a 0 = f (S.drop a) := if_pos rfl

theorem rep_rel {el : List UInt8 → Rd.Res Rd.Expr} {S : List UInt8} {a a1 a1' a2 : Nat} {e e1 e1' e2 : Int} {l h : Nat × Bool} {x : Rd.Expr} {star : Bool} (i3 : Rel S (startR (Rd.number 10 200) S a e) l a1 e1) (hst : Rd.headIs (S.drop a1) 42 = star)
    (ih : if star then Rel S (startR (Rd.number 10 200) S (a1 + 1) e1) h a1' e1' else h = l ∧ a1' = a1 ∧ e1' = e1) (j3 : Rel S (startR el S a1' e1') x a2 e2) :
    Rel S (startR (Rd.repeated el) S a e) (repX (numI l) (numI h) star x) a2 (repE (numI l) (numI h) star e2) := by
  have pass : ∀ c : Int, c ≠ 0 → e1 = c → e2 = c := by
    intro c hc h1
    have h2 : e1' = c := by
      cases star with
      | false => simp only [Bool.false_eq_true, if_false] at ih; rw [ih.2.2, h1]
      | true =>
        simp only [if_true] at ih
        rw [startR_ne (by omega)] at ih
        rw [ih.1, h1]
    rw [startR_ne (by omega)] at j3
    rw [j3.1, h2]
  by_cases he : e = 0
  · subst he
    rw [startR_0] at i3 ⊢
    unfold Rd.repeated
    cases hv : Rd.number 10 200 (S.drop a) with
    | err c s =>
      rw [hv] at i3
      have := pass c i3.2 i3.1
      rw [Rd.Res.bind_err]
      exact ⟨by rw [repE_ne (by rw [this]; exact i3.2), this], i3.2⟩
    | ok l' s1 =>
      rw [hv] at i3
      obtain ⟨q1, q2, q3, q4⟩ := i3
      subst q1
      subst q4
      have hl0 := numberL_0 10 200 (S.drop a) 0 false l s1 (fun _ => rfl) hv
      rw [Rd.Res.bind_ok]
      rw [q2] at hst
      have e1d : s1.drop 1 = S.drop (a1 + 1) := by rw [← q2, List.drop_drop]
      cases star with
      | false =>
        simp only [Bool.false_eq_true, if_false] at ih
        obtain ⟨g1, g2, g3⟩ := ih
        subst g1
        subst g2
        subst g3
        rw [startR_0, q2] at j3
        rw [if_neg (by rw [hst]; simp), Rd.Res.bind_ok]
        cases hv2 : el s1 with
        | err c s =>
          rw [hv2] at j3
          rw [Rd.Res.bind_err]
          exact ⟨by rw [repE_ne (by rw [j3.1]; exact j3.2), j3.1], j3.2⟩
        | ok y s3 =>
          rw [hv2] at j3
          obtain ⟨w1, w2, w3, w4⟩ := j3
          subst w1
          subst w4
          rw [Rd.Res.bind_ok, hst]
          exact repX_eq (star := false) hl0 hl0 w2 w3
      | true =>
        simp only [if_true] at ih
        rw [startR_0] at ih
        rw [if_pos hst, e1d]
        cases hv1 : Rd.number 10 200 (S.drop (a1 + 1)) with
        | err c s =>
          rw [hv1] at ih
          rw [Rd.Res.bind_err]
          rw [startR_ne (by rw [ih.1]; exact ih.2)] at j3
          exact ⟨by rw [repE_ne (by rw [j3.1]; exact j3.2), j3.1, ih.1], ih.2⟩
        | ok h' s2 =>
          rw [hv1] at ih
          obtain ⟨g1, g2, g3, g4⟩ := ih
          subst g1
          subst g4
          have hh0 := numberL_0 10 200 _ 0 false h s2 (fun _ => rfl) hv1
          rw [startR_0, g2] at j3
          rw [Rd.Res.bind_ok]
          cases hv2 : el s2 with
          | err c s =>
            rw [hv2] at j3
            rw [Rd.Res.bind_err]
            exact ⟨by rw [repE_ne (by rw [j3.1]; exact j3.2), j3.1], j3.2⟩
          | ok y s3 =>
            rw [hv2] at j3
            obtain ⟨w1, w2, w3, w4⟩ := j3
            subst w1
            subst w4
            rw [Rd.Res.bind_ok, hst]
            exact repX_eq (star := true) hl0 hh0 w2 w3
  · rw [startR_ne he] at i3 ⊢
    have := pass e he i3.1
    exact ⟨by rw [repE_ne (by rw [this]; exact he), this], he⟩

theorem r_repeat {c : Prop} {d : Int} {w : Nat} {el : List UInt8 → Rd.Res Rd.Expr} (hel : RfG c n_ref03_reader_element [.int .i64 d] encE w el) : RfG c n_ref03_reader_repeat [.int .i64 d] encE w (Rd.repeated el) := by
  intro p S a e H hs hl ha he hc
  have hp := hget_lt hs
  obtain ⟨l, a1, e1, i1, i2, i3⟩ := r_numberG (b := 10) (m := 200) (by omega) (by omega) (H := .var zE :: H) (rf_o hs) hl ha he (fun _ => trivial)
  have he1 : e1 = 0 → a1 ≤ S.length := fun h => i3.at_le h
  have h0 := r_at (H := .var zE :: rfSet H p S a1 e1) (p := p) (rf_o (rf_s hp)) hl 0 (by omega)
  have h42 := hd_eq (S.drop a1) 42
  simp (maxDischargeDepth := 9) only [Qam, Qcr, Nat.add_zero, hp, zE] at i1 h0 h42
  rw [show numV l = .int .i64 (numI l) from rfl] at i1
  cases hst : Rd.headIs (S.drop a1) 42 with
  | false =>
    rw [hst] at h42
    obtain ⟨x, a2, e2, j1, j2, j3⟩ := hel (H := .var zE :: rfSet H p S a1 e1) (p := p) (rf_o (rf_s hp)) hl (by omega) he1 (fun h => hc (i3.mono h))
    have k := r_repeat_1 (H := rfSet H p S a1 e1) (p := p) (a1 := a2) (e1 := e2) (x := x) (d := d) (lo := numI l) (hi := numI l) (star := false) (rf_s hp) (by rw [j1]; simp (maxDischargeDepth := 9) only [Qcr, Qcs, hset_length, hp])
    refine ⟨repX (numI l) (numI l) false x, a2, repE (numI l) (numI l) false e2, ?_, by omega, rep_rel i3 hst (by simp) j3⟩
    simp (maxDischargeDepth := 9) only [Qcs, hset_length, hp, zE] at k
    rw [ref03_reader_repeat_E, ref03_reader_repeat_eq]
    simp (maxDischargeDepth := 9) only [Qah, Qag, Qab, Qbd, Qfr, Qew, Qea, Qee, Qdc, Qhm, Qas, Qao, Qgr, Qgq, Qgv, Qhe, Qhb, Qdl, Qhk, Qhi, Qhh, Qcn, Qcr, Qco, Qcs, Qfy, if_true, List.drop_zero, List.drop_succ_cons, List.length_cons, List.length_nil, Nat.zero_add, Bool.and_true, List.nil_append, List.cons_append, Nat.reduceAdd, hset_length, oLoad_ptr, oStore_ptr, le_s, Nat.le_refl, Nat.zero_le, or_true, and_self, hp, zE, i1, h0, h42, k]
  | true =>
    rw [hst] at h42
    have hlt := headIs_len hst
    simp only [List.length_drop] at hlt
    obtain ⟨h, a1', e1', n1, n2, n3⟩ := r_numberG (b := 10) (m := 200) (by omega) (by omega) (H := .var zE :: rfSet H p S (a1 + 1) e1) (p := p) (rf_o (rf_s hp)) hl (by omega) (fun _ => by omega) (fun _ => trivial)
    have he1' : e1' = 0 → a1' ≤ S.length := fun h => n3.at_le h
    obtain ⟨x, a2, e2, j1, j2, j3⟩ := hel (H := .var zE :: rfSet H p S a1' e1') (p := p) (rf_o (rf_s hp)) hl (by omega) he1' (fun h => hc (i3.mono (n3.mono h)))
    have k := r_repeat_1 (H := rfSet H p S a1' e1') (p := p) (a1 := a2) (e1 := e2) (x := x) (d := d) (lo := numI l) (hi := numI h) (star := true) (rf_s hp) (by rw [j1]; simp (maxDischargeDepth := 9) only [Qcr, Qcs, hset_length, hp])
    refine ⟨repX (numI l) (numI h) true x, a2, repE (numI l) (numI h) true e2, ?_, by omega, rep_rel i3 hst (by simp only [if_true]; exact n3) j3⟩
    simp (maxDischargeDepth := 9) only [Qam, Qcr, Qcs, hset_length, hp, zE] at k n1
    rw [show numV h = .int .i64 (numI h) from rfl] at n1
    rw [ref03_reader_repeat_E, ref03_reader_repeat_eq]
    simp (maxDischargeDepth := 9) only [Qah, Qag, Qab, Qbe, Qfr, Qew, Qea, Qee, Qdc, Qhm, Qas, Qao, Qgr, Qgq, Qgv, Qhe, Qhb, Qdl, Qhk, Qhi, Qhh, Qcn, Qcr, Qco, Qcs, Qfy, if_true, List.drop_zero, List.drop_succ_cons, List.length_cons, List.length_nil, Nat.zero_add, Bool.and_true, List.nil_append, List.cons_append, Nat.reduceAdd, hset_length, oLoad_ptr, oStore_ptr, le_s, Nat.le_refl, Nat.zero_le, or_true, and_self, hp, zE, i1, h0, h42, wrap_succ (show a1 < 4611686018427387904 by omega), n1, k]
end Go.Proofs.YthcjjicplodhjaaDoor
end

section
/- The document's reader, function by function: rows, ways, brackets. -/
namespace Go.Proofs.YthcjjicplodhjaaDoor
open Go Go.Ev
set_option linter.unusedVariables false
set_option linter.unusedSimpArgs false

/-- A row's end: what has been read becomes one. -/
theorem seq_end {n ver m : Nat} {l : List Rd.Expr} {H : Heap} (hn : H.length = n) (hm : m = l.length) (h0 : 0 < l.length) :
    ref03_reader_seq_j2 n (.ptr n 0 0) (.rs (n + 1) ver 6 0 m) (.row ver 6 true (cellsE l) :: .var zE :: H) = some (.ret (encE (Rd.some_ 2 l)), H) := by
  subst hn
  subst hm
  rw [ref03_reader_seq_j2_eq]
  match l, h0 with
  | [e], _ =>
    have h1 : oIndexPtr 6 (.rs (H.length + 1) ver 6 0 [e].length) (.int .i64 0) = some (.ptr (H.length + 1) ver 0) := oIndexPtr_rs (k := .i64) (j := 0) (by simp)
    simp only [List.length_cons, List.length_nil, Nat.zero_add] at h1
    simp (maxDischargeDepth := 9) only [Qah, Qag, Qbe, Qfe, Qee, Qda, Qdc, Qdb, Qhk, Qhi, Qam, Qcu, Qcn, Qcr, Qcm, Qcq, Qhl, Qep, Qbh, Qbn, Qbg, Qbp, Qbm, Qan, decide_true, if_true, List.drop_zero, List.drop_succ_cons, List.length_cons, List.length_nil, Nat.zero_add, List.append_nil, Nat.reduceAdd, Nat.reduceMul, oLoad_ptr, oStore_ptr, List.drop_nil, le_s, Nat.le_refl, Nat.lt_add_one, true_or, and_true, and_self, h1, Qan, take_cellsE, zE, Rd.some_]
  | a :: b :: l, _ =>
    have h2 : ¬ (((a :: b :: l).length : Nat) : Int) = 1 := by simp; omega
    have hf := fun (H' : Heap) hg => frz_someK (H' := H') (H := H) (n := H.length) (ver := ver) (l := a :: b :: l) (m := l.length + 1 + 1) hg rfl
    simp only [List.length_cons] at h2
    simp (maxDischargeDepth := 9) only [Qah, Qag, Qbd, Qfe, Qee, Qda, Qdc, Qas, Qba, Qao, Qgr, Qgq, Qgv, Qhe, Qhb, Qhd, Qdl, Qdu, Qdr, Qdw, Qdt, Qdh, Qdg, Qdf, Qhk, Qhi, Qhh, Qcu, Qcn, Qcr, Qcm, Qcq, Qhl, Qeq, Qep, Qai, Qge, Qgd, Qbf, Qca, Qcf, Qcd, Qbw, Qde, Qdd, decide_false, if_true, List.drop_zero, List.drop_succ_cons, List.length_cons, List.length_nil, Nat.zero_add, Option.bind_some, Option.map_some, Bool.and_true, List.append_nil, List.nil_append, List.cons_append, Nat.reduceAdd, Nat.reduceLeDiff, oLoad_ptr, oStore_ptr, List.drop_nil, le_s, Nat.le_refl, Nat.lt_add_one, Nat.zero_le, true_or, and_true, and_self, Nat.max_self, Nat.zero_max, Nat.max_zero, List.take_zero, List.take_succ_cons, h2, List.getElem?_cons_zero, List.getElem?_cons_succ, zE, Rd.some_, hf]
    rfl
theorem alt_end {n ver m : Nat} {l : List Rd.Expr} {H : Heap} (hn : H.length = n) (hm : m = l.length) (h0 : 0 < l.length) :
    ref03_reader_alt_j2 n (.ptr n 0 0) (.rs (n + 1) ver 6 0 m) (.row ver 6 true (cellsE l) :: .var zE :: H) = some (.ret (encE (Rd.some_ 1 l)), H) := by
  subst hn
  subst hm
  rw [ref03_reader_alt_j2_eq]
  match l, h0 with
  | [e], _ =>
    have h1 : oIndexPtr 6 (.rs (H.length + 1) ver 6 0 [e].length) (.int .i64 0) = some (.ptr (H.length + 1) ver 0) := oIndexPtr_rs (k := .i64) (j := 0) (by simp)
    simp only [List.length_cons, List.length_nil, Nat.zero_add] at h1
    simp (maxDischargeDepth := 9) only [Qah, Qag, Qbe, Qfe, Qee, Qda, Qdc, Qdb, Qhk, Qhi, Qam, Qcu, Qcn, Qcr, Qcm, Qcq, Qhl, Qep, Qbh, Qbn, Qbg, Qbp, Qbm, Qan, decide_true, if_true, List.drop_zero, List.drop_succ_cons, List.length_cons, List.length_nil, Nat.zero_add, List.append_nil, Nat.reduceAdd, Nat.reduceMul, oLoad_ptr, oStore_ptr, List.drop_nil, le_s, Nat.le_refl, Nat.lt_add_one, true_or, and_true, and_self, h1, Qan, take_cellsE, zE, Rd.some_]
  | a :: b :: l, _ =>
    have h2 : ¬ (((a :: b :: l).length : Nat) : Int) = 1 := by simp; omega
    have hf := fun (H' : Heap) hg => frz_someK (H' := H') (H := H) (n := H.length) (ver := ver) (l := a :: b :: l) (m := l.length + 1 + 1) hg rfl
    simp only [List.length_cons] at h2
    simp (maxDischargeDepth := 9) only [Qah, Qag, Qbd, Qfe, Qee, Qda, Qdc, Qas, Qba, Qao, Qgr, Qgq, Qgv, Qhe, Qhb, Qhd, Qdl, Qdu, Qdr, Qdw, Qdt, Qdh, Qdg, Qdf, Qhk, Qhi, Qhh, Qcu, Qcn, Qcr, Qcm, Qcq, Qhl, Qeq, Qep, Qai, Qge, Qgd, Qbf, Qca, Qcf, Qcd, Qbw, Qde, Qdd, decide_false, if_true, List.drop_zero, List.drop_succ_cons, List.length_cons, List.length_nil, Nat.zero_add, Option.bind_some, Option.map_some, Bool.and_true, List.append_nil, List.nil_append, List.cons_append, Nat.reduceAdd, Nat.reduceLeDiff, oLoad_ptr, oStore_ptr, List.drop_nil, le_s, Nat.le_refl, Nat.lt_add_one, Nat.zero_le, true_or, and_true, and_self, Nat.max_self, Nat.zero_max, Nat.max_zero, List.take_zero, List.take_succ_cons, h2, List.getElem?_cons_zero, List.getElem?_cons_succ, zE, Rd.some_, hf]
    rfl

theorem r_seq_l {c : Prop} {d : Int} {w : Nat} {rep : List UInt8 → Rd.Res Rd.Expr} (hrep : RfG c n_ref03_reader_repeat [.int .i64 d] encE w rep) (hle : ∀ s, (rep s).le s.length) (hw : w ≤ 5000) {p : Nat} {S : List UInt8} (hl : S.length < 60000) :
    ∀ (n : Nat) (l : List Rd.Expr) (ver : Nat) {a : Nat} {e : Int} {H : Heap}, RfAt H p S a e → a ≤ S.length + 20000 → (e = 0 → c) → (e = 0 → a ≤ S.length) → (e = 0 → (S.drop a).length ≤ n) → l.length + n < 900000 → 0 < l.length →
    ∃ x a' e', ref03_reader_seq_l1 H.length (.ptr p 0 0) (.int .i64 d) (.ptr H.length 0 0) (.rs (H.length + 1) ver 6 0 l.length) (.row ver 6 true (cellsE l) :: .var zE :: H) = some (.ret (encE x), rfSet H p S a' e') ∧ ((e = 0 → a' ≤ S.length + w) ∧ (e ≠ 0 → a' = a)) ∧ Rel S (startR (Rd.rowL rep n l) S a e) x a' e'
  | n, l, ver, a, e, H, hs, ha, hc, hae, hn, hln, h0 => by
    have hp := hget_lt hs
    rw [ref03_reader_seq_l1_eq]
    by_cases he : e = 0
    · subst he
      have haS := hae rfl
      obtain ⟨a1, b, i1, i2, i3⟩ := r_skip_g (H := .row ver 6 true (cellsE l) :: .var zE :: H) (p := p) (rf_o (rf_o hs)) hl hae
      obtain ⟨i4, i5, i6⟩ := i3 rfl
      have hb := r_begins (H := .row ver 6 true (cellsE l) :: .var zE :: rfSet H p S a1 0) (p := p) (rf_o (rf_o (rf_s hp))) hl (by omega)
      rw [i4] at hb
      have hend := seq_end (n := H.length) (ver := ver) (m := l.length) (l := l) (H := H) rfl rfl h0
      simp (maxDischargeDepth := 9) only [Qcr, List.length_cons, lt_s, hp, zE] at i1 hb
      simp only [zE] at hend
      have hstop : (decide ((Rd.room (S.drop a)).length < (S.drop a).length) && Rd.begins (Rd.room (S.drop a))) = false → Rd.rowL rep n l (S.drop a) = .ok (Rd.some_ 2 l) (S.drop a) := by
        intro h
        cases n with
        | zero => rfl
        | succ n => simp only [Rd.rowL, h]; rfl
      rw [startR_0]
      cases b with
      | false =>
        rw [hstop (by rw [← i6]; rfl)]
        refine ⟨_, a, 0, ?_, ⟨fun _ => by omega, fun h => absurd rfl h⟩, rfl, rfl, haS, rfl⟩
        simp (maxDischargeDepth := 9) only [Qah, Qag, Qab, Qbe, Qcj, Qfp, Qfu, Qfr, Qew, Qfx, Qee, Qdc, Qhm, Qas, Qgr, Qgq, Qgv, Qdl, Qhk, Qhi, Qhh, Qcn, Qcr, Qco, Qcs, decide_true, Bool.not_false, if_true, List.drop_zero, List.drop_succ_cons, List.length_cons, List.length_nil, Nat.zero_add, Bool.and_true, List.nil_append, List.cons_append, Nat.reduceAdd, hset_length, oLoad_ptr, oStore_ptr, lt_s, le_s, Nat.le_refl, Nat.zero_le, or_true, and_true, and_self, hp, hs, zE, i1, rfSet]
        rw [hset_self hs, hend]
      | true =>
        cases h2 : Rd.begins (Rd.room (S.drop a)) with
        | false =>
          rw [hstop (by rw [h2]; simp)]
          refine ⟨_, a, 0, ?_, ⟨fun _ => by omega, fun h => absurd rfl h⟩, rfl, rfl, haS, rfl⟩
          simp (maxDischargeDepth := 9) only [Qah, Qag, Qab, Qbe, Qcl, Qfp, Qft, Qfr, Qew, Qfx, Qee, Qdc, Qhm, Qas, Qgr, Qgq, Qgv, Qdl, Qhk, Qhi, Qhh, Qcn, Qcr, Qco, Qcs, decide_true, Bool.not_true, Bool.not_false, if_true, List.drop_zero, List.drop_succ_cons, List.length_cons, List.length_nil, Nat.zero_add, Bool.and_true, List.nil_append, List.cons_append, Nat.reduceAdd, hset_length, oLoad_ptr, oStore_ptr, lt_s, le_s, Nat.le_refl, Nat.zero_le, or_true, and_true, and_self, hp, hs, zE, i1, hb, h2, rfSet]
          rw [hset_self hs, hend]
        | true =>
          have h3 : (Rd.room (S.drop a)).length < (S.drop a).length := by simpa using i6.symm
          have hn0 := hn rfl
          obtain ⟨m, rfl⟩ : ∃ m, n = m + 1 := ⟨n - 1, by omega⟩
          obtain ⟨x, a2, e2, j1, j2, j3⟩ := hrep (H := .row ver 6 true (cellsE l) :: .var zE :: rfSet H p S a1 0) (p := p) (rf_o (rf_o (rf_s hp))) hl (by omega) (fun _ => i5) (fun _ => hc rfl)
          rw [startR_0, i4] at j3
          have hrl := hle (Rd.room (S.drop a))
          obtain ⟨y, a', e', k1, k2, k3⟩ := r_seq_l hrep hle hw hl m (l ++ [x]) (ver + 1) (a := a2) (e := e2) (H := rfSet H p S a2 e2) (rf_s hp) (by omega) (fun _ => hc rfl) (fun h => j3.at_le h) (fun h => by
            cases hv : rep (Rd.room (S.drop a)) with
            | err c s => rw [hv] at j3; exact absurd h (by rw [j3.1]; exact j3.2)
            | ok z s =>
              rw [hv] at j3
              have := Rd.Res.le_ok hrl hv
              rw [j3.2.1]; omega) (by simp; omega) (by simp)
          refine ⟨y, a', e', ?_, ?_, ?_⟩
          · simp (maxDischargeDepth := 9) only [Qcr, Qcs, List.length_cons, hset_length, lt_s, hp, zE] at j1 k1
            simp only [List.length_append, List.length_cons, List.length_nil, Nat.zero_add] at k1
            have hap : ∀ H' : Heap, hget H' (H.length + 1) = some (.row ver 6 true (cellsE l)) → oAppend H.length 6 88 true (.rs (H.length + 1) ver 6 0 l.length) (.vs [encE x]) H' = some (.rs (H.length + 1) (ver + 1) 6 0 (l.length + 1), hset H' (H.length + 1) (.row (ver + 1) 6 true (cellsE (l ++ [x])))) :=
              fun H' hg => append_encE hg rfl (by omega)
            simp (maxDischargeDepth := 9) only [Qah, Qag, Qab, Qbe, Qbd, Qcl, Qfp, Qft, Qfr, Qew, Qfx, Qee, Qdc, Qhm, Qhk, Qhi, Qhh, Qcn, Qcr, Qco, Qcm, Qcq, Qcs, Qfh, decide_true, Bool.not_true, List.drop_zero, List.drop_succ_cons, List.length_cons, List.length_nil, Nat.zero_add, Nat.reduceAdd, hset_length, oLoad_ptr, oStore_ptr, lt_s, le_s, Nat.le_refl, and_true, and_self, hp, hs, zE, i1, hb, h2, j1, hap, k1]
          · refine ⟨fun _ => ?_, fun h => absurd rfl h⟩
            by_cases he2 : e2 = 0
            · exact k2.1 he2
            · rw [k2.2 he2]; omega
          · rw [Rd.rowL, if_pos (by rw [← i6, h2]; rfl)]
            cases hv : rep (Rd.room (S.drop a)) with
            | err c s =>
              rw [hv] at j3
              rw [startR_ne (by rw [j3.1]; exact j3.2)] at k3
              exact ⟨by rw [k3.1, j3.1], j3.2⟩
            | ok z s =>
              rw [hv] at j3
              obtain ⟨w1, w2, w3, w4⟩ := j3
              subst w1
              subst w4
              rw [startR_0, w2] at k3
              exact k3
    · have hend := seq_end (n := H.length) (ver := ver) (m := l.length) (l := l) (H := H) rfl rfl h0
      simp only [zE] at hend
      refine ⟨Rd.some_ 2 l, a, e, ?_, ⟨fun h => absurd h he, fun _ => rfl⟩, by rw [startR_ne he]; exact ⟨rfl, he⟩⟩
      simp (maxDischargeDepth := 9) only [Qah, Qbd, Qfp, Qfr, Qew, Qee, Qdc, Qhm, Qcn, decide_false, List.drop_zero, List.drop_succ_cons, List.length_cons, Nat.zero_add, oLoad_ptr, oStore_ptr, lt_s, hp, hs, he, zE, rfSet, hset_self hs]
      rw [hend]
theorem r_seq {c : Prop} {d : Int} {w : Nat} {rep : List UInt8 → Rd.Res Rd.Expr} (hrep : RfG c n_ref03_reader_repeat [.int .i64 d] encE w rep) (hle : ∀ s, (rep s).le s.length) (hw : w ≤ 5000) : RfG c n_ref03_reader_seq [.int .i64 d] encE w (Rd.row rep) := by
  intro p S a e H hs hl ha he hc
  have hp := hget_lt hs
  obtain ⟨x, a1, e1, i1, i2, i3⟩ := hrep (H := .var zE :: H) (rf_o hs) hl ha he hc
  obtain ⟨y, a', e', k1, k2, k3⟩ := r_seq_l hrep hle hw hl (S.drop a1).length [x] 0 (a := a1) (e := e1) (H := rfSet H p S a1 e1) (rf_s hp) (by omega) (fun h => hc (i3.mono h)) (fun h => i3.at_le h) (fun _ => Nat.le_refl _) (by simp; omega) (by simp)
  refine ⟨y, a', e', ?_, ?_, ?_⟩
  · simp (maxDischargeDepth := 9) only [Qcr, Qcs, List.length_cons, List.length_nil, Nat.zero_add, hset_length, hp, zE] at i1 k1
    rw [ref03_reader_seq_E, ref03_reader_seq_eq]
    simp (maxDischargeDepth := 9) only [Qag, Qab, Qao, Qgr, Qgq, Qgv, Qhe, Qhb, Qfy, List.length_cons, Bool.and_true, hset_length, hp, i1, row_encE (z := [.int .i64 0, .str [], .nils, .int .i64 0, .int .i64 0, .nils]) rfl, k1]
  · by_cases h : e1 = 0
    · have := k2.1 h; omega
    · rw [k2.2 h]; omega
  · by_cases h : e = 0
    · subst h
      rw [startR_0] at i3 ⊢
      unfold Rd.row
      cases hv : rep (S.drop a) with
      | err c s =>
        rw [hv] at i3
        rw [startR_ne (by rw [i3.1]; exact i3.2)] at k3
        exact ⟨by rw [k3.1, i3.1], i3.2⟩
      | ok z s =>
        rw [hv] at i3
        obtain ⟨w1, w2, w3, w4⟩ := i3
        subst w1
        subst w4
        rw [startR_0, w2] at k3
        exact k3
    · rw [startR_ne h] at i3 ⊢
      rw [startR_ne (by rw [i3.1]; exact h)] at k3
      exact ⟨by rw [k3.1, i3.1], h⟩

theorem r_alt_l {c : Prop} {d : Int} {w : Nat} {row : List UInt8 → Rd.Res Rd.Expr} (hrow : RfG c n_ref03_reader_seq [.int .i64 d] encE w row) (hle : ∀ s, (row s).le s.length) (hw : w ≤ 5000) {p : Nat} {S : List UInt8} (hl : S.length < 60000) :
    ∀ (n : Nat) (l : List Rd.Expr) (ver : Nat) {a : Nat} {e : Int} {H : Heap}, RfAt H p S a e → a ≤ S.length + 20000 → (e = 0 → c) → (e = 0 → a ≤ S.length) → (e = 0 → (S.drop a).length ≤ n) → l.length + n < 900000 → 0 < l.length →
    ∃ x a' e', ref03_reader_alt_l1 H.length (.ptr p 0 0) (.int .i64 d) (.ptr H.length 0 0) (.rs (H.length + 1) ver 6 0 l.length) (.row ver 6 true (cellsE l) :: .var zE :: H) = some (.ret (encE x), rfSet H p S a' e') ∧ ((e = 0 → a' ≤ S.length + w) ∧ (e ≠ 0 → a' = a)) ∧ Rel S (startR (Rd.waysL row n l) S a e) x a' e'
  | n, l, ver, a, e, H, hs, ha, hc, hae, hn, hln, h0 => by
    have hp := hget_lt hs
    rw [ref03_reader_alt_l1_eq]
    by_cases he : e = 0
    · subst he
      have haS := hae rfl
      obtain ⟨a1, b, i1, i2, i3⟩ := r_skip_g (H := .row ver 6 true (cellsE l) :: .var zE :: H) (p := p) (rf_o (rf_o hs)) hl hae
      obtain ⟨i4, i5, i6⟩ := i3 rfl
      have hat := r_at (H := .row ver 6 true (cellsE l) :: .var zE :: rfSet H p S a1 0) (p := p) (rf_o (rf_o (rf_s hp))) hl 0 (by omega)
      have h47 := hd_eq (S.drop a1) 47
      have hend := alt_end (n := H.length) (ver := ver) (m := l.length) (l := l) (H := H) rfl rfl h0
      simp (maxDischargeDepth := 9) only [Qam, Qcr, List.length_cons, Nat.add_zero, lt_s, hp, zE] at i1 hat h47
      simp only [zE] at hend
      rw [startR_0]
      cases hcc : Rd.headIs (S.drop a1) 47 with
      | false =>
        rw [hcc] at h47
        have hstop : Rd.waysL row n l (S.drop a) = .ok (Rd.some_ 1 l) (S.drop a) := by
          rw [i4] at hcc
          cases n with
          | zero => rfl
          | succ n => simp only [Rd.waysL, hcc]; rfl
        rw [hstop]
        refine ⟨_, a, 0, ?_, ⟨fun _ => by omega, fun h => absurd rfl h⟩, rfl, rfl, haS, rfl⟩
        simp (maxDischargeDepth := 9) only [Qah, Qag, Qab, Qbe, Qfr, Qew, Qea, Qee, Qek, Qdc, Qhm, Qas, Qgr, Qgq, Qgv, Qdl, Qhk, Qhi, Qhh, Qcn, Qcr, Qco, Qcs, decide_true, Bool.not_false, if_true, List.drop_zero, List.drop_succ_cons, List.length_cons, List.length_nil, Nat.zero_add, Bool.and_true, List.nil_append, List.cons_append, Nat.reduceAdd, hset_length, oLoad_ptr, oStore_ptr, lt_s, le_s, Nat.le_refl, Nat.zero_le, or_true, and_true, and_self, hp, hs, zE, i1, hat, h47, rfSet]
        rw [hset_self hs, hend]
      | true =>
        rw [hcc] at h47
        have hlt := headIs_len hcc
        simp only [List.length_drop] at hlt
        have hrl0 := Rd.room_le (S.drop a)
        rw [← i4] at hrl0
        simp only [List.length_drop] at hrl0
        have hn0 := hn rfl
        simp only [List.length_drop] at hn0
        obtain ⟨m, rfl⟩ : ∃ m, n = m + 1 := ⟨n - 1, by omega⟩
        obtain ⟨a2, b2, m1, m2, m3⟩ := r_skip_g (H := .row ver 6 true (cellsE l) :: .var zE :: rfSet H p S (a1 + 1) 0) (p := p) (rf_o (rf_o (rf_s hp))) hl (fun _ => by omega)
        obtain ⟨m4, m5, m6⟩ := m3 rfl
        obtain ⟨x, a3, e3, j1, j2, j3⟩ := hrow (H := .row ver 6 true (cellsE l) :: .var zE :: rfSet H p S a2 0) (p := p) (rf_o (rf_o (rf_s hp))) hl (by omega) (fun _ => m5) (fun _ => hc rfl)
        have hdd : S.drop (a1 + 1) = (Rd.room (S.drop a)).drop 1 := by rw [← i4, List.drop_drop]
        rw [startR_0, m4, hdd] at j3
        have hrl := hle (Rd.room ((Rd.room (S.drop a)).drop 1))
        have hrl2 := Rd.room_le ((Rd.room (S.drop a)).drop 1)
        rw [← hdd] at hrl2
        simp only [List.length_drop] at hrl2
        obtain ⟨y, a', e', k1, k2, k3⟩ := r_alt_l hrow hle hw hl m (l ++ [x]) (ver + 1) (a := a3) (e := e3) (H := rfSet H p S a3 e3) (rf_s hp) (by omega) (fun _ => hc rfl) (fun h => j3.at_le h) (fun h => by
            cases hv : row (Rd.room ((Rd.room (S.drop a)).drop 1)) with
            | err c s => rw [hv] at j3; exact absurd h (by rw [j3.1]; exact j3.2)
            | ok z s =>
              rw [hv] at j3
              have := Rd.Res.le_ok hrl hv
              rw [← hdd] at this
              rw [j3.2.1]; omega) (by simp; omega) (by simp)
        refine ⟨y, a', e', ?_, ?_, ?_⟩
        · simp (maxDischargeDepth := 9) only [Qcr, Qcs, List.length_cons, hset_length, lt_s, hp, zE] at j1 k1 m1
          simp only [List.length_append, List.length_cons, List.length_nil, Nat.zero_add] at k1
          have hap : ∀ H' : Heap, hget H' (H.length + 1) = some (.row ver 6 true (cellsE l)) → oAppend H.length 6 88 true (.rs (H.length + 1) ver 6 0 l.length) (.vs [encE x]) H' = some (.rs (H.length + 1) (ver + 1) 6 0 (l.length + 1), hset H' (H.length + 1) (.row (ver + 1) 6 true (cellsE (l ++ [x])))) :=
            fun H' hg => append_encE hg rfl (by omega)
          simp (maxDischargeDepth := 9) only [Qah, Qag, Qab, Qbe, Qbd, Qfr, Qew, Qea, Qee, Qek, Qdc, Qhm, Qas, Qgr, Qgq, Qgv, Qdl, Qhk, Qhi, Qhh, Qcn, Qcr, Qco, Qcm, Qcq, Qcs, Qfh, decide_true, Bool.not_true, if_true, List.drop_zero, List.drop_succ_cons, List.length_cons, List.length_nil, Nat.zero_add, Bool.and_true, List.nil_append, List.cons_append, Nat.reduceAdd, hset_length, oLoad_ptr, oStore_ptr, lt_s, le_s, Nat.le_refl, Nat.zero_le, or_true, and_true, and_self, hp, hs, zE, i1, hat, h47, wrap_succ (show a1 < 4611686018427387904 by omega), m1, j1, hap, k1]
        · refine ⟨fun _ => ?_, fun h => absurd rfl h⟩
          by_cases he2 : e3 = 0
          · exact k2.1 he2
          · rw [k2.2 he2]; omega
        · rw [Rd.waysL, if_pos (by rw [← i4]; exact hcc)]
          cases hv : row (Rd.room ((Rd.room (S.drop a)).drop 1)) with
          | err c s =>
            rw [hv] at j3
            rw [startR_ne (by rw [j3.1]; exact j3.2)] at k3
            exact ⟨by rw [k3.1, j3.1], j3.2⟩
          | ok z s =>
            rw [hv] at j3
            obtain ⟨w1, w2, w3, w4⟩ := j3
            subst w1
            subst w4
            rw [startR_0, w2] at k3
            exact k3
    · have hend := alt_end (n := H.length) (ver := ver) (m := l.length) (l := l) (H := H) rfl rfl h0
      simp only [zE] at hend
      refine ⟨Rd.some_ 1 l, a, e, ?_, ⟨fun h => absurd h he, fun _ => rfl⟩, by rw [startR_ne he]; exact ⟨rfl, he⟩⟩
      simp (maxDischargeDepth := 9) only [Qah, Qbd, Qfr, Qew, Qee, Qdc, Qhm, Qcn, decide_false, List.drop_zero, List.drop_succ_cons, List.length_cons, Nat.zero_add, oLoad_ptr, oStore_ptr, lt_s, hp, hs, he, zE, rfSet, hset_self hs]
      rw [hend]
theorem r_alt {c : Prop} {d : Int} {w : Nat} {row : List UInt8 → Rd.Res Rd.Expr} (hrow : RfG c n_ref03_reader_seq [.int .i64 d] encE w row) (hle : ∀ s, (row s).le s.length) (hw : w ≤ 5000) : RfG c n_ref03_reader_alt [.int .i64 d] encE w (Rd.waysG row) := by
  intro p S a e H hs hl ha he hc
  have hp := hget_lt hs
  obtain ⟨x, a1, e1, i1, i2, i3⟩ := hrow (H := .var zE :: H) (rf_o hs) hl ha he hc
  obtain ⟨y, a', e', k1, k2, k3⟩ := r_alt_l hrow hle hw hl (S.drop a1).length [x] 0 (a := a1) (e := e1) (H := rfSet H p S a1 e1) (rf_s hp) (by omega) (fun h => hc (i3.mono h)) (fun h => i3.at_le h) (fun _ => Nat.le_refl _) (by simp; omega) (by simp)
  refine ⟨y, a', e', ?_, ?_, ?_⟩
  · simp (maxDischargeDepth := 9) only [Qcr, Qcs, List.length_cons, List.length_nil, Nat.zero_add, hset_length, hp, zE] at i1 k1
    rw [ref03_reader_alt_E, ref03_reader_alt_eq]
    simp (maxDischargeDepth := 9) only [Qag, Qab, Qao, Qgr, Qgq, Qgv, Qhe, Qhb, Qfy, List.length_cons, Bool.and_true, hset_length, hp, i1, row_encE (z := [.int .i64 0, .str [], .nils, .int .i64 0, .int .i64 0, .nils]) rfl, k1]
  · by_cases h : e1 = 0
    · have := k2.1 h; omega
    · rw [k2.2 h]; omega
  · by_cases h : e = 0
    · subst h
      rw [startR_0] at i3 ⊢
      unfold Rd.waysG
      cases hv : row (S.drop a) with
      | err c s =>
        rw [hv] at i3
        rw [startR_ne (by rw [i3.1]; exact i3.2)] at k3
        exact ⟨by rw [k3.1, i3.1], i3.2⟩
      | ok z s =>
        rw [hv] at i3
        obtain ⟨w1, w2, w3, w4⟩ := i3
        subst w1
        subst w4
        rw [startR_0, w2] at k3
        exact k3
    · rw [startR_ne h] at i3 ⊢
      rw [startR_ne (by rw [i3.1]; exact h)] at k3
      exact ⟨by rw [k3.1, i3.1], h⟩
end Go.Proofs.YthcjjicplodhjaaDoor
end

section
/- The document's reader, function by function: brackets, and the way round. -/
namespace Go.Proofs.YthcjjicplodhjaaDoor
open Go Go.Ev
set_option linter.unusedVariables false
set_option linter.unusedSimpArgs false

theorem r_group_2 {p : Nat} {S : List UInt8} {a : Nat} {e : Int} {H : Heap} {x : Rd.Expr} {n : Nat} (hn : H.length = n) (hs : RfAt H p S a e) (ha : a < 1000000) :
    ref03_reader_group_j2 n (.ptr p 0 0) (.ptr n 0 0) (.ptr (n + 1) 0 0) (.var (encE x).cells :: .var zE :: H) = some (.ret (encE x), rfSet H p S (a + 1) e) := by
  subst hn
  have hp := hget_lt hs
  rw [ref03_reader_group_j2_eq]
  simp (maxDischargeDepth := 9) only [Qah, Qag, Qfr, Qew, Qea, Qdc, Qhm, Qas, Qgr, Qgq, Qgv, Qdl, Qhk, Qhi, Qhh, Qcv, Qcu, Qcn, Qcr, Qcm, Qcq, Qhl, Qbh, Qbn, Qbk, Qbg, Qbp, Qbm, if_true, List.drop_zero, List.drop_succ_cons, List.length_cons, List.length_nil, Nat.zero_add, Bool.and_true, List.append_nil, List.nil_append, List.cons_append, Nat.reduceAdd, hset_length, oLoad_ptr, oStore_ptr, List.drop_nil, lt_s, le_s, Nat.le_refl, Nat.lt_add_one, Nat.zero_le, or_true, and_true, and_self, hp, hs, zE, wrap_succ (show a < 4611686018427387904 by omega), rfSet]

theorem r_group_1 {c : Prop} {d w : Nat} {W : List UInt8 → Rd.Res Rd.Expr} (hd : d < 1000) (hW : RfG c n_ref03_reader_alt [.int .i64 ((d + 1 : Nat) : Int)] encE w W) (hw : w ≤ 5000) (fin : Nat) {p : Nat} {S : List UInt8} {a : Nat} {e : Int} {H : Heap} (hs : RfAt H p S a e) (hl : S.length < 60000) (ha : a ≤ S.length) (hc : e = 0 → c) :
    ∃ x a' e', ref03_reader_group_j1 H.length (.ptr p 0 0) (.int .i64 fin) (.int .i64 d) (.ptr H.length 0 0) (.var zE :: H) = some (.ret (encE x), rfSet H p S a' e') ∧ a' ≤ S.length + w + 1 ∧
      Rel S (startR (fun s => (W (Rd.room s)).bind fun e s1 => if Rd.headIs (Rd.room s1) fin then .ok e ((Rd.room s1).drop 1) else .err 20 (Rd.room s1)) S a e) x a' e' := by
  have hp := hget_lt hs
  obtain ⟨a1, b1, i1, i2, i3⟩ := r_skip_g (H := .var zE :: H) (p := p) (rf_o hs) hl (fun _ => ha)
  obtain ⟨x, a2, e2, j1, j2, j3⟩ := hW (H := .var zE :: rfSet H p S a1 e) (p := p) (rf_o (rf_s hp)) hl (by omega) (fun h => (i3 h).2.1) hc
  obtain ⟨a3, b3, k1, k2, k3⟩ := r_skip_g (H := .var (encE x).cells :: .var zE :: rfSet H p S a2 e2) (p := p) (rf_o (rf_o (rf_s hp))) hl (fun h => j3.at_le h)
  have hat := r_at (H := .var (encE x).cells :: .var zE :: rfSet H p S a3 e2) (p := p) (rf_o (rf_o (rf_s hp))) hl 0 (by omega)
  have hfin := hd_eq (S.drop a3) fin
  have hf := r_fail (H := .var (encE x).cells :: .var zE :: rfSet H p S a3 e2) (p := p) (rf_o (rf_o (rf_s hp))) 20
  have m2 := fun (e' : Int) => r_group_2 (n := H.length) (H := rfSet H p S a3 e') (p := p) (S := S) (a := a3) (e := e') (x := x) (by simp) (rf_s hp) (by omega)
  have hwr : IntKind.i64.wrap ((d : Int) + 1) = ((d + 1 : Nat) : Int) := wrap_succ (by omega)
  simp (maxDischargeDepth := 9) only [Qam, Qcr, Qcs, List.length_cons, Nat.add_zero, hset_length, lt_s, hp, zE] at i1 j1 k1 hat hf m2
  simp only [rfSet] at hf m2
  refine ⟨x, a3 + 1, if Rd.headIs (S.drop a3) fin then e2 else if e2 = 0 then 20 else e2, ?_, by omega, ?_⟩
  · rw [ref03_reader_group_j1_eq]
    cases hh : Rd.headIs (S.drop a3) fin with
    | true =>
      rw [hh] at hfin
      simp (maxDischargeDepth := 9) only [Qah, Qag, Qab, Qbd, Qea, Qek, Qao, Qgr, Qgq, Qgv, Qhe, Qhb, Qhk, Qhi, Qcm, Qcq, Qfy, Qbh, Qbn, Qbk, Bool.not_true, if_true, List.drop_succ_cons, List.length_cons, List.length_nil, Nat.zero_add, Bool.and_true, List.append_nil, Nat.reduceAdd, hset_length, oStore_ptr, List.drop_nil, le_s, Nat.le_refl, Nat.zero_le, or_true, and_true, and_self, hp, zE, hwr, i1, j1, k1, hat, hfin, m2]
    | false =>
      rw [hh] at hfin
      simp (maxDischargeDepth := 9) only [Qah, Qag, Qab, Qbe, Qea, Qek, Qao, Qgr, Qgq, Qgv, Qhe, Qhb, Qhk, Qhi, Qcm, Qcq, Qfy, Qbh, Qbn, Qbk, Bool.not_false, if_true, if_false, List.drop_succ_cons, List.length_cons, List.length_nil, Nat.zero_add, Bool.and_true, Bool.false_eq_true, List.append_nil, Nat.reduceAdd, hset_length, oStore_ptr, List.drop_nil, le_s, Nat.le_refl, Nat.zero_le, or_true, and_true, and_self, hp, zE, hwr, i1, j1, k1, hat, hfin, hf, m2]
  · by_cases he : e = 0
    · subst he
      obtain ⟨g1, g2, g3⟩ := i3 rfl
      rw [startR_0] at j3 ⊢
      rw [g1] at j3
      cases hv : W (Rd.room (S.drop a)) with
      | err c' s =>
        rw [hv] at j3
        obtain ⟨h1, h2⟩ := j3
        rw [Rd.Res.bind_err]
        refine ⟨?_, h2⟩
        rw [h1]
        by_cases h : Rd.headIs (S.drop a3) fin = true
        · rw [if_pos h]
        · rw [if_neg h, if_neg h2]
      | ok y s1 =>
        rw [hv] at j3
        obtain ⟨h1, h2, h3, h4⟩ := j3
        subst h4
        obtain ⟨q1, q2, q3⟩ := k3 rfl
        rw [Rd.Res.bind_ok, ← h2, ← q1]
        cases hh : Rd.headIs (S.drop a3) fin with
        | true =>
          have := headIs_len hh
          simp only [List.length_drop] at this
          simp only [if_true]
          exact ⟨h1, by rw [List.drop_drop], by omega, rfl⟩
        | false =>
          simp only [Bool.false_eq_true, if_false, if_true]
          exact ⟨rfl, by omega⟩
    · rw [startR_ne he] at j3 ⊢
      obtain ⟨h1, h2⟩ := j3
      refine ⟨?_, h2⟩
      rw [h1]
      by_cases h : Rd.headIs (S.drop a3) fin = true
      · rw [if_pos h]
      · rw [if_neg h, if_neg h2]

theorem r_group {d w : Nat} {W : List UInt8 → Rd.Res Rd.Expr} (hd : d < 50) (hW : RfG True n_ref03_reader_alt [.int .i64 ((d + 1 : Nat) : Int)] encE w W) (hw : w ≤ 5000) : GrpF d (w + 1) (Rd.group W) := by
  intro fin p S a H hs hl ha
  have hp := hget_lt hs
  obtain ⟨x, a', e', i1, i2, i3⟩ := r_group_1 (by omega) hW hw fin (H := rfSet H p S (a + 1) 0) (p := p) (rf_s hp) hl (by omega) (fun _ => trivial)
  refine ⟨x, a', e', ?_, by omega, ?_⟩
  · have h50 : ¬ (50 : Int) ≤ (d : Int) := by omega
    simp (maxDischargeDepth := 9) only [Qcs, hset_length, hp, zE] at i1
    simp only [rfSet] at i1
    rw [ref03_reader_group_E, ref03_reader_group_eq]
    simp (maxDischargeDepth := 9) only [Qah, Qag, Qbd, Qfr, Qew, Qea, Qef, Qdc, Qhm, Qas, Qao, Qgr, Qgq, Qgv, Qhe, Qhb, Qdl, Qhk, Qhi, Qhh, Qcn, Qcr, Qfy, decide_false, if_true, List.drop_zero, List.drop_succ_cons, List.length_cons, List.length_nil, Nat.zero_add, Bool.and_true, List.nil_append, List.cons_append, Nat.reduceAdd, oLoad_ptr, oStore_ptr, le_s, Nat.le_refl, Nat.zero_le, or_true, and_self, hp, hs, h50, zE, wrap_succ (show a < 4611686018427387904 by omega), i1]
  · rw [startR_0] at i3
    unfold Rd.group
    rw [List.drop_drop]
    exact i3
theorem r_group_0 {W : List UInt8 → Rd.Res Rd.Expr} (hW : RfG False n_ref03_reader_alt [.int .i64 ((50 + 1 : Nat) : Int)] encE 0 W) : GrpF 50 1 (fun _ s => .err 2 (s.drop 1)) := by
  intro fin p S a H hs hl ha
  have hp := hget_lt hs
  have hf := r_fail (H := .var zE :: rfSet H p S (a + 1) 0) (p := p) (rf_o (rf_s hp)) 2
  obtain ⟨x, a', e', i1, i2, i3⟩ := r_group_1 (by omega) hW (by omega) fin (H := rfSet H p S (a + 1) 2) (p := p) (rf_s hp) hl (by omega) (fun h => by omega)
  refine ⟨x, a', e', ?_, by omega, ?_⟩
  · simp (maxDischargeDepth := 9) only [Qam, Qcr, Qcs, if_true, hset_length, hp, zE] at i1 hf
    simp only [rfSet] at i1 hf
    rw [ref03_reader_group_E, ref03_reader_group_eq]
    simp (maxDischargeDepth := 9) only [Qah, Qag, Qab, Qbe, Qfr, Qew, Qea, Qef, Qdc, Qhm, Qas, Qao, Qgr, Qgq, Qgv, Qhe, Qhb, Qdl, Qhk, Qhi, Qhh, Qcn, Qcr, Qfy, decide_true, if_true, List.drop_zero, List.drop_succ_cons, List.length_cons, List.length_nil, Nat.zero_add, Bool.and_true, List.nil_append, List.cons_append, Nat.reduceAdd, oLoad_ptr, oStore_ptr, le_s, Nat.le_refl, Nat.zero_le, or_true, and_self, hp, hs, zE, wrap_succ (show a < 4611686018427387904 by omega), hf, i1, Int.le_refl]
  · rw [startR_ne (by omega)] at i3
    exact i3

/-- Behind an error everything passes. -/
theorem r_alt_e (d : Int) : RfG False n_ref03_reader_alt [.int .i64 d] encE 0 (Rd.ways 0) :=
  r_alt (r_seq (r_repeat (RfG.of_E (r_element_e d))) (Rd.repeated_le (Rd.element_le (grp := fun _ s => .err 2 (s.drop 1)) (fun f s => (show Rd.Res.le s.length (Rd.Res.err 2 (s.drop 1)) from trivial)))) (by omega)) (Rd.row_le (Rd.repeated_le (Rd.element_le (grp := fun _ s => .err 2 (s.drop 1)) (fun f s => (show Rd.Res.le s.length (Rd.Res.err 2 (s.drop 1)) from trivial))))) (by omega)
def AltAt (k : Nat) : Prop := RfG True n_ref03_reader_alt [.int .i64 ((50 - k : Nat) : Int)] encE (k + 4) (Rd.ways k)
theorem r_alt_z : AltAt 0 := by
  have hg : GrpF 50 1 (fun _ s => .err 2 (s.drop 1)) := r_group_0 (r_alt_e _)
  have hg4 : GrpF 50 4 (fun _ s => .err 2 (s.drop 1)) := by
    intro fin p S a H hs hl ha
    obtain ⟨x, a', e', i1, i2, i3⟩ := hg fin hs hl ha
    exact ⟨x, a', e', i1, by omega, i3⟩
  have he : RfG True n_ref03_reader_element [.int .i64 ((50 - 0 : Nat) : Int)] encE 4 (Rd.elementG fun _ s => .err 2 (s.drop 1)) := RfG.of_1 (r_element (Nat.le_refl _) hg4) (r_element_e _)
  have hle := Rd.element_le (grp := fun _ s => .err 2 (s.drop 1)) (fun f s => (show Rd.Res.le s.length (Rd.Res.err 2 (s.drop 1)) from trivial))
  exact @r_alt _ _ _ _ (r_seq (r_repeat he) (Rd.repeated_le hle) (by omega)) (Rd.row_le (Rd.repeated_le hle)) (by omega)
theorem r_alt_s {k : Nat} (hk : k + 1 ≤ 50) (hW : AltAt k) : AltAt (k + 1) := by
  unfold AltAt at *
  have e1 : 50 - k = (50 - (k + 1)) + 1 := by omega
  rw [e1] at hW
  have hg := r_group (d := 50 - (k + 1)) (by omega) @hW (by omega)
  have he : RfG True n_ref03_reader_element [.int .i64 ((50 - (k + 1) : Nat) : Int)] encE (k + 4 + 1) (Rd.elementG (Rd.group (Rd.ways k))) := RfG.of_1 (r_element (by omega) hg) (r_element_e _)
  have hle := Rd.element_le (Rd.group_le (Rd.ways_le k))
  rw [show k + 1 + 4 = k + 4 + 1 by omega]
  exact @r_alt _ _ _ _ (r_seq (r_repeat he) (Rd.repeated_le hle) (by omega)) (Rd.row_le (Rd.repeated_le hle)) (by omega)
theorem r_alt_k (k : Nat) : k ≤ 50 → AltAt k := by
  induction k with
  | zero => intro _; exact r_alt_z
  | succ k ih => intro h; exact r_alt_s h (ih (by omega))
theorem r_alt_0 : RfG True n_ref03_reader_alt [.int .i64 0] encE 54 (Rd.ways 50) := r_alt_k 50 (Nat.le_refl _)
end Go.Proofs.YthcjjicplodhjaaDoor
end

section
/- The document's reader, function by function: a rule. -/
namespace Go.Proofs.YthcjjicplodhjaaDoor
open Go Go.Ev
set_option linter.unusedVariables false
set_option linter.unusedSimpArgs false

theorem encL_rt (base : Nat) (x : Rd.Line) (H : Heap) : rt false base (.agg (.str x.name :: .bool x.more :: (encE x.expr).cells)) H = some (.ret (encL x), htrunc H base) := by
  obtain ⟨nm, more, e⟩ := x
  cases e with
  | mk k t n lo hi ks => exact rt_frz rfl (Nat.zero_le _)

theorem r_rule_3 {n p : Nat} {S : List UInt8} {a : Nat} {e k : Int} {nm : List UInt8} {more : Bool} {x : Rd.Expr} {H : Heap} (hn : H.length = n) (hs : RfAt H p S a e) (ha : a < 1000000) (hk : k < 1000000) :
    ref03_reader_rule_j3 n (.ptr p 0 0) (.ptr n 0 0) (.ptr (n + 1) 0 0) (.int .i64 k) (.var (.str nm :: .bool more :: (encE x).cells) :: .var zL :: H) = some (.ret (encL ⟨nm, more, x⟩), rfSet H p S (a + k.toNat) e) := by
  subst hn
  have hp := hget_lt hs
  have hr := fun H' => encL_rt H.length ⟨nm, more, x⟩ H'
  simp only at hr
  have hm : (if k < 0 then 0 else k) = ((k.toNat : Nat) : Int) := by split <;> omega
  have hw : IntKind.i64.wrap ((a : Int) + ((k.toNat : Nat) : Int)) = ((a + k.toNat : Nat) : Int) := wrap_nat (by omega)
  rw [ref03_reader_rule_j3_eq]
  simp (maxDischargeDepth := 9) only [Qah, Qag, Qfr, Qew, Qea, Qdc, Qhm, Qas, Qao, Qgr, Qgq, Qgs, Qgv, Qhe, Qdi, Qdl, Qdu, Qdh, Qdf, Qhk, Qhi, Qhh, Qcv, Qcu, Qcn, Qcr, Qcm, Qcq, Qhl, Qfm, Qbh, Qbn, Qbl, Qbp, if_true, List.drop_zero, List.drop_succ_cons, List.length_cons, List.length_nil, Nat.zero_add, Bool.and_true, List.append_nil, List.nil_append, List.cons_append, Nat.reduceAdd, hset_length, oLoad_ptr, oStore_ptr, List.drop_nil, lt_s, le_s, Nat.le_refl, Nat.lt_add_one, Nat.zero_le, or_true, and_true, and_self, Nat.max_self, List.take_succ_cons, hp, hs, zL, hm, hw, hr, rfSet]

/-- Behind the sign of equality. -/
def ruleT (nm : List UInt8) (more : Bool) (s : List UInt8) : Rd.Res Rd.Line := (Rd.ways 50 (Rd.room s)).bind fun e s4 => match Rd.endN (Rd.room s4) with
  | some k => .ok ⟨nm, more, e⟩ ((Rd.room s4).drop k)
  | none => .err 20 (Rd.room s4)

theorem r_rule_2 {n p : Nat} {S : List UInt8} {a : Nat} {e : Int} {nm : List UInt8} {more : Bool} {H : Heap} (hn : H.length = n) (hs : RfAt H p S a e) (hl : S.length < 60000) (ha : a ≤ S.length + 9000) (hae : e = 0 → a ≤ S.length) :
    ∃ x a' e', ref03_reader_rule_j2 n (.ptr p 0 0) (.ptr n 0 0) (.ptr (n + 1) 0 0) (.var (.str nm :: .bool more :: zE) :: .var zL :: H) = some (.ret (encL ⟨nm, more, x⟩), rfSet H p S a' e') ∧ a' ≤ 2 * S.length + 20000 ∧
      Rel S (startR (ruleT nm more) S a e) ⟨nm, more, x⟩ a' e' := by
  subst hn
  have hp := hget_lt hs
  obtain ⟨a1, b1, i1, i2, i3⟩ := r_skip_g (H := .var (.str nm :: .bool more :: zE) :: .var zL :: H) (p := p) (rf_o (rf_o hs)) hl hae
  obtain ⟨x, a2, e2, j1, j2, j3⟩ := r_alt_0 (H := .var (.str nm :: .bool more :: zE) :: .var zL :: rfSet H p S a1 e) (p := p) (rf_o (rf_o (rf_s hp))) hl (by omega) (fun h => (i3 h).2.1) (fun _ => trivial)
  obtain ⟨a3, b3, k1, k2, k3⟩ := r_skip_g (H := .var (.str nm :: .bool more :: (encE x).cells) :: .var zL :: rfSet H p S a2 e2) (p := p) (rf_o (rf_o (rf_s hp))) hl (fun h => j3.at_le h)
  have hen := r_ends (H := .var (.str nm :: .bool more :: (encE x).cells) :: .var zL :: rfSet H p S a3 e2) (p := p) (rf_o (rf_o (rf_s hp))) hl (by omega)
  have hf := r_fail (H := .var (.str nm :: .bool more :: (encE x).cells) :: .var zL :: rfSet H p S a3 e2) (p := p) (rf_o (rf_o (rf_s hp))) 20
  have hel : endI (S.drop a3) ≤ S.length := by
    cases h : Rd.endN (S.drop a3) with
    | none => simp only [endI, h]; omega
    | some k =>
      have := endN_le _ _ h
      simp only [List.length_drop] at this
      simp only [endI, h]; omega
  have m3 := fun (e' : Int) => r_rule_3 (n := H.length) (H := rfSet H p S a3 e') (p := p) (S := S) (a := a3) (e := e') (k := endI (S.drop a3)) (x := x) (nm := nm) (more := more) (by simp) (rf_s hp) (by omega) (by omega)
  simp (maxDischargeDepth := 9) only [Qcr, Qcs, List.length_cons, hset_length, lt_s, hp, zE, zL] at i1 j1 k1 hen hf m3
  simp only [rfSet] at hf m3
  refine ⟨x, a3 + (endI (S.drop a3)).toNat, if endI (S.drop a3) < 0 then (if e2 = 0 then 20 else e2) else e2, ?_, by omega, ?_⟩
  · rw [ref03_reader_rule_j2_eq]
    by_cases hh : endI (S.drop a3) < 0
    · simp (maxDischargeDepth := 9) only [Qah, Qag, Qab, Qbe, Qew, Qei, Qhk, Qhi, Qhh, Qcm, Qcq, Qbh, Qbn, Qbk, decide_true, if_true, List.drop_succ_cons, List.length_cons, List.length_nil, Nat.zero_add, List.append_nil, Nat.reduceAdd, hset_length, oStore_ptr, List.drop_nil, le_s, Nat.le_refl, Nat.zero_le, or_true, and_self, hp, zE, zL, i1, j1, k1, hen, hf, m3, hh]
    · simp (maxDischargeDepth := 9) only [Qah, Qag, Qab, Qbd, Qew, Qei, Qhk, Qhi, Qhh, Qcm, Qcq, Qbh, Qbn, Qbk, decide_false, if_true, if_false, List.drop_succ_cons, List.length_cons, List.length_nil, Nat.zero_add, List.append_nil, Nat.reduceAdd, hset_length, oStore_ptr, List.drop_nil, le_s, Nat.le_refl, Nat.zero_le, or_true, and_self, hp, zE, zL, i1, j1, k1, hen, hf, m3, hh]
  · have hpass : ∀ c : Int, c ≠ 0 → e2 = c → (if endI (S.drop a3) < 0 then (if e2 = 0 then 20 else e2) else e2) = c := by
      intro c hc h
      subst h
      rw [if_neg hc]; split <;> rfl
    by_cases he : e = 0
    · subst he
      obtain ⟨g1, g2, g3⟩ := i3 rfl
      rw [startR_0] at j3 ⊢
      rw [g1] at j3
      unfold ruleT
      cases hv : Rd.ways 50 (Rd.room (S.drop a)) with
      | err c' s =>
        rw [hv] at j3
        obtain ⟨h1, h2⟩ := j3
        rw [Rd.Res.bind_err]
        exact ⟨hpass _ h2 h1, h2⟩
      | ok y s1 =>
        rw [hv] at j3
        obtain ⟨h1, h2, h3, h4⟩ := j3
        subst h4
        subst h1
        obtain ⟨q1, q2, q3⟩ := k3 rfl
        rw [Rd.Res.bind_ok, ← h2, ← q1]
        cases hh : Rd.endN (S.drop a3) with
        | some k =>
          have hi : endI (S.drop a3) = (k : Int) := by simp only [endI, hh]
          have := endN_le _ _ hh
          simp only [List.length_drop] at this
          simp only [hi, Int.toNat_natCast]
          exact ⟨rfl, by rw [List.drop_drop], by omega, by rw [if_neg (by omega)]⟩
        | none =>
          have hi : endI (S.drop a3) = -1 := by simp only [endI, hh]
          simp only [hi]
          exact ⟨rfl, by omega⟩
    · rw [startR_ne he] at j3 ⊢
      obtain ⟨h1, h2⟩ := j3
      exact ⟨hpass _ h2 h1, h2⟩

theorem r_rule_1 {n p : Nat} {S : List UInt8} {a : Nat} {e : Int} {nm : List UInt8} {H : Heap} (hn : H.length = n) (hs : RfAt H p S a e) (hl : S.length < 60000) (ha : a ≤ S.length + 8000) (hae : e = 0 → a + 1 ≤ S.length) :
    ∃ x a' e', ref03_reader_rule_j1 n (.ptr p 0 0) (.ptr n 0 0) (.ptr (n + 1) 0 0) (.var (.str nm :: .bool false :: zE) :: .var zL :: H) = some (.ret (encL x), rfSet H p S a' e') ∧ a' ≤ 2 * S.length + 20000 ∧
      Rel S (startR (fun s => ruleT nm (Rd.headIs (s.drop 1) 47) (if Rd.headIs (s.drop 1) 47 then (s.drop 1).drop 1 else s.drop 1)) S a e) x a' e' := by
  subst hn
  have hp := hget_lt hs
  have hat := r_at (H := .var (.str nm :: .bool false :: zE) :: .var zL :: rfSet H p S (a + 1) e) (p := p) (rf_o (rf_o (rf_s hp))) hl 0 (by omega)
  have h47 := hd_eq (S.drop (a + 1)) 47
  simp (maxDischargeDepth := 9) only [Qam, Nat.add_zero, hp, zE, zL] at hat h47
  cases hm : Rd.headIs (S.drop (a + 1)) 47 with
  | true =>
    rw [hm] at h47
    have hlt := headIs_len hm
    simp only [List.length_drop] at hlt
    obtain ⟨x, a', e', i1, i2, i3⟩ := r_rule_2 (n := H.length) (H := rfSet H p S (a + 1 + 1) e) (p := p) (nm := nm) (more := true) (by simp) (rf_s hp) hl (by omega) (fun _ => by omega)
    refine ⟨⟨nm, true, x⟩, a', e', ?_, i2, ?_⟩
    · simp (maxDischargeDepth := 9) only [Qcs, hp, zE, zL] at i1
      simp only [rfSet] at i1
      rw [ref03_reader_rule_j1_eq]
      simp (maxDischargeDepth := 9) only [Qah, Qag, Qab, Qbe, Qfr, Qew, Qea, Qee, Qdc, Qhm, Qap, Qas, Qgr, Qgq, Qgs, Qgv, Qdi, Qdl, Qhk, Qhi, Qhh, Qcn, Qcr, Qco, Qcm, Qcq, Qcs, if_true, List.drop_zero, List.drop_succ_cons, List.length_cons, List.length_nil, Nat.zero_add, Bool.and_true, List.nil_append, List.cons_append, Nat.reduceAdd, hset_length, oLoad_ptr, oStore_ptr, lt_s, le_s, Nat.le_refl, Nat.zero_le, or_true, and_true, and_self, hp, hs, zE, zL, wrap_succ (show a < 4611686018427387904 by omega), wrap_succ (show a + 1 < 4611686018427387904 by omega), hat, h47, i1]
    · by_cases he : e = 0
      · subst he
        rw [startR_0] at i3 ⊢
        have d1 : (S.drop a).drop 1 = S.drop (a + 1) := by rw [List.drop_drop]
        have d2 : (S.drop (a + 1)).drop 1 = S.drop (a + 1 + 1) := by rw [List.drop_drop]
        simp only [d1, hm, if_true, d2]
        exact i3
      · rw [startR_ne he] at i3 ⊢
        exact i3
  | false =>
    rw [hm] at h47
    obtain ⟨x, a', e', i1, i2, i3⟩ := r_rule_2 (n := H.length) (H := rfSet H p S (a + 1) e) (p := p) (nm := nm) (more := false) (by simp) (rf_s hp) hl (by omega) hae
    refine ⟨⟨nm, false, x⟩, a', e', ?_, i2, ?_⟩
    · simp (maxDischargeDepth := 9) only [Qcs, hp, zE, zL] at i1
      simp only [rfSet] at i1
      rw [ref03_reader_rule_j1_eq]
      simp (maxDischargeDepth := 9) only [Qah, Qag, Qab, Qbd, Qfr, Qew, Qea, Qee, Qdc, Qhm, Qap, Qas, Qgr, Qgq, Qgs, Qgv, Qdi, Qdl, Qhk, Qhi, Qhh, Qcn, Qcr, Qco, Qcm, Qcq, Qcs, if_true, List.drop_zero, List.drop_succ_cons, List.length_cons, List.length_nil, Nat.zero_add, Bool.and_true, List.nil_append, List.cons_append, Nat.reduceAdd, hset_length, oLoad_ptr, oStore_ptr, lt_s, le_s, Nat.le_refl, Nat.zero_le, or_true, and_true, and_self, hp, hs, zE, zL, wrap_succ (show a < 4611686018427387904 by omega), hat, h47, i1]
    · by_cases he : e = 0
      · subst he
        rw [startR_0] at i3 ⊢
        have d1 : (S.drop a).drop 1 = S.drop (a + 1) := by rw [List.drop_drop]
        simp only [d1, hm, Bool.false_eq_true, if_false]
        exact i3
      · rw [startR_ne he] at i3 ⊢
        exact i3

theorem rule_eq (s : List UInt8) : Rd.rule s = (Rd.name s).bind fun n s1 => if Rd.headIs (Rd.room s1) 61 then ruleT n (Rd.headIs ((Rd.room s1).drop 1) 47) (if Rd.headIs ((Rd.room s1).drop 1) 47 then ((Rd.room s1).drop 1).drop 1 else (Rd.room s1).drop 1) else .err 20 (Rd.room s1) := rfl

theorem r_rule {p : Nat} {S : List UInt8} {a : Nat} {H : Heap} (hs : RfAt H p S a 0) (hl : S.length < 60000) (ha : a ≤ S.length) :
    ∃ x a' e', E n_ref03_reader_rule [.ptr p 0 0] H = some (.ret (encL x), rfSet H p S a' e') ∧ a' ≤ 2 * S.length + 20000 ∧ Rel S (Rd.rule (S.drop a)) x a' e' := by
  have hp := hget_lt hs
  obtain ⟨nm, a1, e1, i1, i2, i3⟩ := r_name (B := 0) (H := .var zL :: H) (p := p) (rf_o hs) hl (by omega) (by omega) (fun _ => ha)
  obtain ⟨a2, b2, j1, j2, j3⟩ := r_skip_g (H := .var (.str nm :: .bool false :: zE) :: .var zL :: rfSet H p S a1 e1) (p := p) (rf_o (rf_o (rf_s hp))) hl (fun h => i3.at_le h)
  have hat := r_at (H := .var (.str nm :: .bool false :: zE) :: .var zL :: rfSet H p S a2 e1) (p := p) (rf_o (rf_o (rf_s hp))) hl 0 (by omega)
  have h61 := hd_eq (S.drop a2) 61
  have hf := r_fail (H := .var (.str nm :: .bool false :: zE) :: .var zL :: rfSet H p S a2 e1) (p := p) (rf_o (rf_o (rf_s hp))) 20
  simp (maxDischargeDepth := 9) only [Qam, Qcr, Qcs, List.length_cons, Nat.add_zero, hset_length, lt_s, hp, zE, zL] at i1 j1 hat h61 hf
  simp only [rfSet] at j1 hat hf
  rw [ref03_reader_rule_E, rule_eq]
  rw [startR_0] at i3
  cases hh : Rd.headIs (S.drop a2) 61 with
  | true =>
    rw [hh] at h61
    have hlt := headIs_len hh
    simp only [List.length_drop] at hlt
    obtain ⟨x, a', e', m1, m2, m3⟩ := r_rule_1 (n := H.length) (H := rfSet H p S a2 e1) (p := p) (nm := nm) (by simp) (rf_s hp) hl (by omega) (fun _ => by omega)
    refine ⟨x, a', e', ?_, m2, ?_⟩
    · simp (maxDischargeDepth := 9) only [Qcs, hp, zE, zL] at m1
      simp only [rfSet] at m1
      rw [ref03_reader_rule_eq]
      simp (maxDischargeDepth := 9) only [Qah, Qag, Qab, Qbd, Qek, Qbb, Qao, Qgr, Qgq, Qgs, Qgv, Qhe, Qhb, Qdi, Qdl, Qdu, Qdr, Qdh, Qdg, Qdf, Qhk, Qhi, Qcm, Qcq, Qfy, Qeq, Qep, Qai, Bool.not_true, if_true, List.drop_zero, List.drop_succ_cons, List.length_cons, List.length_nil, Nat.zero_add, Bool.and_true, List.append_nil, List.nil_append, List.cons_append, Nat.reduceAdd, hset_length, oStore_ptr, List.drop_nil, le_s, Nat.le_refl, Nat.zero_le, or_true, and_true, and_self, Nat.max_self, hp, hs, zE, zL, i1, j1, hat, h61, m1, rfSet, List.getElem?_cons_zero]
    · cases hv : Rd.name (S.drop a) with
      | err c s =>
        rw [hv] at i3
        rw [startR_ne (by rw [i3.1]; exact i3.2)] at m3
        rw [Rd.Res.bind_err]
        exact ⟨by rw [m3.1, i3.1], i3.2⟩
      | ok y s1 =>
        rw [hv] at i3
        obtain ⟨h1, h2, h3, h4⟩ := i3
        subst h4
        subst h1
        obtain ⟨q1, q2, q3⟩ := j3 rfl
        rw [startR_0] at m3
        rw [Rd.Res.bind_ok, ← h2, ← q1, if_pos hh]
        exact m3
  | false =>
    rw [hh] at h61
    have hne : (if e1 = 0 then 20 else e1) ≠ 0 := by split <;> omega
    obtain ⟨x, a', e', m1, m2, m3⟩ := r_rule_1 (n := H.length) (H := rfSet H p S a2 (if e1 = 0 then 20 else e1)) (p := p) (nm := nm) (by simp) (rf_s hp) hl (by omega) (fun h => absurd h hne)
    rw [startR_ne hne] at m3
    refine ⟨x, a', e', ?_, m2, ?_⟩
    · simp (maxDischargeDepth := 9) only [Qcs, hp, zE, zL] at m1
      simp only [rfSet] at m1
      rw [ref03_reader_rule_eq]
      simp (maxDischargeDepth := 9) only [Qah, Qag, Qab, Qbe, Qek, Qbb, Qao, Qgr, Qgq, Qgs, Qgv, Qhe, Qhb, Qdi, Qdl, Qdu, Qdr, Qdh, Qdg, Qdf, Qhk, Qhi, Qcm, Qcq, Qfy, Qeq, Qep, Qai, Bool.not_false, if_true, List.drop_zero, List.drop_succ_cons, List.length_cons, List.length_nil, Nat.zero_add, Bool.and_true, List.append_nil, List.nil_append, List.cons_append, Nat.reduceAdd, hset_length, oStore_ptr, List.drop_nil, le_s, Nat.le_refl, Nat.zero_le, or_true, and_true, and_self, Nat.max_self, hp, hs, zE, zL, i1, j1, hat, h61, hf, m1, rfSet, List.getElem?_cons_zero]
    · cases hv : Rd.name (S.drop a) with
      | err c s =>
        rw [hv] at i3
        have hc : e1 ≠ 0 := by rw [i3.1]; exact i3.2
        rw [Rd.Res.bind_err]
        exact ⟨by rw [m3.1, if_neg hc, i3.1], i3.2⟩
      | ok y s1 =>
        rw [hv] at i3
        obtain ⟨h1, h2, h3, h4⟩ := i3
        subst h4
        obtain ⟨q1, q2, q3⟩ := j3 rfl
        rw [Rd.Res.bind_ok, ← h2, ← q1, hh]
        exact ⟨m3.1, by omega⟩
end Go.Proofs.YthcjjicplodhjaaDoor
end

section
/- The document's reader, function by function: a text. -/
namespace Go.Proofs.YthcjjicplodhjaaDoor
open Go Go.Ev
set_option linter.unusedVariables false
set_option linter.unusedSimpArgs false

theorem hdP_dw (q : UInt8 → Bool) : ∀ s : List UInt8, hdP q (s.dropWhile q) = false
  | [] => rfl
  | c :: s => by
    rw [List.dropWhile_cons]
    cases h : q c with
    | true => simp only [if_true]; exact hdP_dw q s
    | false => simp only [Bool.false_eq_true, if_false]; exact h
theorem r_Read_2 {p base : Nat} {S : List UInt8} (hl : S.length < 60000) {v t6 : V} : ∀ (r : List UInt8) {a : Nat} {G : Heap}, RfAt G p S a 0 → S.drop a = r → a ≤ S.length →
    ref03_Read_l2 base (.str S) (.ptr p 0 0) v t6 G = ref03_Read_l2 base (.str S) (.ptr p 0 0) v t6 (rfSet G p S (a + (r.takeWhile Rd.isBlank).length) 0)
  | [], a, G, hs, hd0, ha => by
    simp only [List.takeWhile_nil, List.length_nil, Nat.add_zero, rfSet, hset_self hs]
  | c :: r, a, G, hs, hd0, ha => by
    have hp := hget_lt hs
    obtain ⟨g1, g2, g3⟩ := drop_cons hd0
    cases h1 : Rd.isBlank c with
    | false =>
      simp only [List.takeWhile_cons, h1, Bool.false_eq_true, if_false, List.length_nil, Nat.add_zero, rfSet, hset_self hs]
    | true =>
      have h0 := r_at hs hl 0 (by omega)
      simp only [Qam, Nat.add_zero] at h0
      have hbl := blank_hd (S.drop a)
      rw [hd0] at h0 hbl
      simp only [hdP, h1] at hbl
      have ih := r_Read_2 hl (base := base) (v := v) (t6 := t6) r (a := a + 1) (G := rfSet G p S (a + 1) 0) (rf_s hp) g2 (by omega)
      rw [ref03_Read_l2_eq]
      simp only [rfSet, Qcs] at ih
      simp (maxDischargeDepth := 9) only [Qah, Qag, Qab, Qbe, Qfr, Qew, Qea, Qdc, Qhm, Qas, Qgr, Qgq, Qgv, Qdl, Qhk, Qhi, Qhh, if_true, List.drop_zero, List.drop_succ_cons, List.length_cons, List.length_nil, Nat.zero_add, Bool.and_true, List.nil_append, List.cons_append, Nat.reduceAdd, oLoad_ptr, oStore_ptr, le_s, Nat.le_refl, Nat.zero_le, or_true, and_self, hs, hp, h0, r_blank, hbl, wrap_succ (show a < 4611686018427387904 by omega)]
      rw [ih]
      simp only [List.takeWhile_cons, h1, if_true, List.length_cons, rfSet, Qcs]
      rw [show a + 1 + (r.takeWhile Rd.isBlank).length = a + ((r.takeWhile Rd.isBlank).length + 1) by omega]

theorem r_Read_e {p : Nat} {S : List UInt8} {a : Nat} {e : Int} {v : V} {G H0 : Heap} (hs : RfAt G p S a e) (he : e ≠ 0) (ht : htrunc G p = H0) :
    ref03_Read_l1 p (.str S) (.ptr p 0 0) v G = some (.ret (.tup [.vs [], .int .i64 e]), H0) := by
  have hp := hget_lt hs
  rw [ref03_Read_l1_eq]
  by_cases h : (a : Int) < (S.length : Int)
  · simp (maxDischargeDepth := 9) only [Qah, Qbe, Qbd, Qcl, Qfp, Qfu, Qfr, Qew, Qfg, Qee, Qek, Qei, Qdc, Qhm, Qdl, Qdw, Qdv, Qdg, Qdf, Qgm, Qgd, Qbf, Qca, Qcd, Qcg, Qde, Qdd, decide_true, decide_false, Bool.not_false, if_true, List.drop_zero, List.drop_succ_cons, Nat.zero_add, Option.bind_some, Option.map_some, Nat.reduceAdd, oLoad_ptr, Nat.zero_le, Nat.max_self, hs, hp, h, he, ht]
  · simp (maxDischargeDepth := 9) only [Qah, Qbe, Qbd, Qci, Qfp, Qft, Qfr, Qew, Qfg, Qek, Qei, Qdc, Qhm, Qdl, Qdw, Qdv, Qdg, Qdf, Qgm, Qgd, Qbf, Qca, Qcd, Qcg, Qde, Qdd, decide_false, Bool.not_false, if_true, List.drop_zero, List.drop_succ_cons, Nat.zero_add, Option.bind_some, Option.map_some, Nat.reduceAdd, oLoad_ptr, Nat.zero_le, Nat.max_self, hs, hp, h, he, ht]

def finR (r : Rd.Res (List Rd.Line)) : List Rd.Line × Int :=
  match r with
  | .ok l _ => (l, 0)
  | .err e _ => ([], e)

theorem r_Read_0 {p : Nat} {S : List UInt8} {a : Nat} {v : V} {G H0 : Heap} {l : List Rd.Line} (hs : RfAt G p S a 0) (hr : RowsAt encL 8 (p + 1) G v l) (ht : htrunc G p = H0) (ha : S.length ≤ a) :
    ref03_Read_l1 p (.str S) (.ptr p 0 0) v G = some (.ret (.tup [.vs (l.map encL), .int .i64 0]), H0) := by
  have hp := hget_lt hs
  have hf := hr.frz encL_ok (base := p) (n := 9) (by omega)
  rw [ref03_Read_l1_eq]
  have h : ¬ (a : Int) < (S.length : Int) := by omega
  simp (maxDischargeDepth := 9) only [Qah, Qbd, Qci, Qfp, Qft, Qfr, Qew, Qfg, Qek, Qei, Qdc, Qhm, Qdl, Qdw, Qdv, Qdg, Qdf, Qgm, Qgd, Qbf, Qca, Qcd, Qcg, Qde, Qdd, decide_true, decide_false, Bool.not_true, if_true, List.drop_zero, List.drop_succ_cons, Nat.zero_add, Option.bind_some, Option.map_some, Nat.reduceAdd, oLoad_ptr, Nat.zero_le, Nat.max_self, hs, hp, h, hf, ht]

theorem r_Read_l {p : Nat} {S : List UInt8} (hl : S.length < 60000) {H0 : Heap} : ∀ (n : Nat) (l : List Rd.Line) {a : Nat} {v : V} {G : Heap}, RfAt G p S a 0 → RowsAt encL 8 (p + 1) G v l → htrunc G p = H0 → a ≤ S.length → (S.drop a).length ≤ n → l.length ≤ 500 →
    ref03_Read_l1 p (.str S) (.ptr p 0 0) v G = some (.ret (.tup [.vs ((finR (Rd.rulesL n l (S.drop a))).1.map encL), .int .i64 (finR (Rd.rulesL n l (S.drop a))).2]), H0)
  | n, l, a, v, G, hs, hr, ht, ha, hn, h5 => by
    have hp := hget_lt hs
    cases hd0 : S.drop a with
    | nil =>
      have e : Rd.rulesL n l [] = .ok l [] := by cases n <;> rfl
      have hlen : (S.drop a).length = 0 := by rw [hd0]; rfl
      simp only [List.length_drop] at hlen
      rw [e, r_Read_0 hs hr ht (by omega)]
      rfl
    | cons c r =>
      obtain ⟨g1, g2, g3⟩ := drop_cons hd0
      rw [hd0] at hn
      obtain ⟨m, rfl⟩ : ∃ m, n = m + 1 := ⟨n - 1, by simp at hn; omega⟩
      have k2 := r_Read_2 hl (base := p) (v := v) (t6 := .int .i64 a) (c :: r) (a := a) (G := G) hs hd0 ha
      have hal : (a : Int) < (S.length : Int) := by omega
      have htl := takeWhile_le Rd.isBlank (c :: r)
      have hdl := dropWhile_le Rd.isBlank (c :: r)
      have hlen : (S.drop a).length = (c :: r).length := by rw [hd0]
      simp only [List.length_drop] at hlen
      have ha1 : a + ((c :: r).takeWhile Rd.isBlank).length ≤ S.length := by omega
      have hd1 : S.drop (a + ((c :: r).takeWhile Rd.isBlank).length) = (c :: r).dropWhile Rd.isBlank := by
        rw [← List.drop_drop, hd0, drop_take_while]
      have hbn : hdP Rd.isBlank ((c :: r).dropWhile Rd.isBlank) = false := hdP_dw _ _
      generalize hA : a + ((c :: r).takeWhile Rd.isBlank).length = a1 at *
      have h0 := r_at (H := rfSet G p S a1 0) (p := p) (rf_s hp) hl 0 (by omega)
      simp only [Qam, Nat.add_zero] at h0
      have hbl := blank_hd (S.drop a1)
      have hen := r_ends (H := rfSet G p S a1 0) (p := p) (rf_s hp) hl (by omega)
      rw [hd1] at h0 hbl hen
      rw [hbn] at hbl
      simp only [rfSet] at h0 hen k2
      rw [Rd.rulesL]
      cases hh : Rd.endN ((c :: r).dropWhile Rd.isBlank) with
      | some k =>
        have hi : endI ((c :: r).dropWhile Rd.isBlank) = k := by simp [endI, hh]
        rw [hi] at hen
        have n0 : (0 : Int) ≤ (k : Int) := by omega
        have hlt := skip_lt hn hh
        have hkl := endN_le _ _ hh
        have hd2 : S.drop (a1 + k) = ((c :: r).dropWhile Rd.isBlank).drop k := by rw [← List.drop_drop, hd1]
        have hl1 : (S.drop a1).length = ((c :: r).dropWhile Rd.isBlank).length := by rw [hd1]
        simp only [List.length_drop] at hl1
        have ih := r_Read_l hl (H0 := H0) m l (a := a1 + k) (v := v) (G := rfSet G p S (a1 + k) 0) (rf_s hp) (hr.set _ (by omega)) (by rw [rfSet, htrunc_set _ (Nat.le_refl _) hp, ht]) (by omega) (by rw [hd2]; exact hlt) h5
        rw [hd2] at ih
        simp only [rfSet] at ih
        rw [ref03_Read_l1_eq]
        simp (maxDischargeDepth := 9) only [Qah, Qbe, Qbd, Qcl, Qfp, Qfu, Qfr, Qew, Qfg, Qee, Qek, Qei, Qdc, Qhm, Qdl, Qdw, Qdv, Qdg, Qdf, Qgm, Qgd, Qbf, Qca, Qcd, Qcg, Qde, Qdd, decide_true, Bool.not_true, if_true, List.drop_zero, List.drop_succ_cons, Nat.zero_add, Option.bind_some, Option.map_some, Nat.reduceAdd, oLoad_ptr, Nat.zero_le, Nat.max_self, hs, hp, hal, k2]
        rw [ref03_Read_l2_eq]
        simp (maxDischargeDepth := 9) only [Qah, Qag, Qab, Qbe, Qbd, Qfr, Qew, Qea, Qef, Qdc, Qhm, Qas, Qgr, Qgq, Qgv, Qdl, Qhk, Qhi, Qhh, Qco, Qcs, decide_true, if_true, List.drop_zero, List.drop_succ_cons, List.length_cons, List.length_nil, Nat.zero_add, Bool.and_true, List.nil_append, List.cons_append, Nat.reduceAdd, oLoad_ptr, oStore_ptr, le_s, Nat.le_refl, Nat.zero_le, or_true, and_self, hs, hp, h0, r_blank, hbl, hen, n0, wrap_nat (show a1 + k < 4611686018427387904 by omega), ih]
      | none =>
        have hi : endI ((c :: r).dropWhile Rd.isBlank) = -1 := by simp [endI, hh]
        rw [hi] at hen
        have n0 : ¬ (0 : Int) ≤ -1 := by omega
        obtain ⟨x, a2, e2, i1, i2, i3⟩ := r_rule (H := rfSet G p S a 0) (p := p) (rf_s hp) hl ha
        have hG : htrunc (rfSet G p S a2 e2) p = H0 := by rw [rfSet, htrunc_set _ (Nat.le_refl _) hp, ht]
        have hr2 : RowsAt encL 8 (p + 1) (rfSet G p S a2 e2) v l := hr.set _ (by omega)
        obtain ⟨v', G', j1, j2, j3, j4, j5⟩ := hr2.app encL_ok (base := p) (by_ := 112) (a := x) (by simp [rfSet]; omega) (by simp [roomOk]; omega)
        have hs' : RfAt G' p S a2 e2 := by rw [RfAt, j3 p (by omega)]; exact Qco hp
        have hp' := hget_lt hs'
        have hf := r_fail hs' 2
        have ht' : htrunc G' p = H0 := by rw [j4 p (by omega), hG]
        rw [hd0] at i3
        simp only [rfSet] at i1 j1
        rw [Qcs] at i1
        have hlen2 := j2.len
        have head : ∀ (R : Option (Out × Heap)), (if 500 < l.length + 1 then ref03_Read_l1 p (.str S) (.ptr p 0 0) v' (rfSet G' p S a2 (if e2 = 0 then 2 else e2)) else ref03_Read_l1 p (.str S) (.ptr p 0 0) v' G') = R →
            ref03_Read_l1 p (.str S) (.ptr p 0 0) v G = R := by
          intro R hR
          rw [ref03_Read_l1_eq]
          simp (maxDischargeDepth := 9) only [Qah, Qbe, Qbd, Qcl, Qfp, Qfu, Qfr, Qew, Qfg, Qee, Qek, Qei, Qdc, Qhm, Qdl, Qdw, Qdv, Qdg, Qdf, Qgm, Qgd, Qbf, Qca, Qcd, Qcg, Qde, Qdd, decide_true, Bool.not_true, if_true, List.drop_zero, List.drop_succ_cons, Nat.zero_add, Option.bind_some, Option.map_some, Nat.reduceAdd, oLoad_ptr, Nat.zero_le, Nat.max_self, hs, hp, hal, k2]
          rw [ref03_Read_l2_eq]
          simp (maxDischargeDepth := 9) only [Qah, Qag, Qab, Qbd, Qfr, Qew, Qea, Qeg, Qef, Qdc, Qhm, Qas, Qgr, Qgq, Qgv, Qdl, Qhk, Qhi, Qhh, Qco, Qcs, decide_false, if_true, List.drop_zero, List.drop_succ_cons, List.length_cons, List.length_nil, Nat.zero_add, Bool.and_true, List.nil_append, List.cons_append, Nat.reduceAdd, oLoad_ptr, oStore_ptr, le_s, Nat.le_refl, Nat.zero_le, or_true, and_self, hs, hp, h0, r_blank, hbl, hen, n0, i1, encL_ok.lit, j1, hlen2, List.length_append]
          by_cases h : 500 < l.length + 1
          · rw [if_pos h] at hR
            have h' : (500 : Int) < ((l.length + 1 : Nat) : Int) := by omega
            simp (maxDischargeDepth := 9) only [Qab, Qbe, decide_true, h', hf, hR]
          · rw [if_neg h] at hR
            have h' : ¬ (500 : Int) < ((l.length + 1 : Nat) : Int) := by omega
            simp (maxDischargeDepth := 9) only [Qbd, decide_false, h', hR]
        refine head _ ?_
        cases hv : Rd.rule (c :: r) with
        | err c' s =>
          rw [hv] at i3
          obtain ⟨q1, q2⟩ := i3
          subst q1
          rw [Rd.Res.bind_err, if_neg q2]
          have e1 := r_Read_e (v := v') hs' q2 ht'
          have e2' : ref03_Read_l1 p (.str S) (.ptr p 0 0) v' (rfSet G' p S a2 e2) = some (.ret (.tup [.vs [], .int .i64 e2]), H0) := by
            rw [rfSet, hset_self hs', e1]
          rw [e1, e2']
          simp only [finR, List.map_nil, ite_self]
        | ok y s =>
          rw [hv] at i3
          obtain ⟨q1, q2, q3, q4⟩ := i3
          subst q4
          subst q1
          have hlt := Rd.Res.le_ok (Rd.rule_lt _) hv
          simp only [List.length_cons] at hlt hn
          rw [Rd.Res.bind_ok]
          by_cases h : 500 < l.length + 1
          · rw [if_pos h, if_pos rfl, if_neg (by omega)]
            have hp2 : RfAt (rfSet G' p S a2 2) p S a2 2 := rf_s hp'
            rw [r_Read_e hp2 (by omega) (by rw [rfSet, htrunc_set _ (Nat.le_refl _) hp', ht'])]
            rfl
          · rw [if_neg h, if_pos (by omega), ← q2]
            exact r_Read_l hl m (l ++ [x]) hs' j2 ht' q3 (by rw [q2]; omega) (by simp; omega)

theorem r_Read (s : List UInt8) (H : Heap) : E n_ref03_Read [.str s] H = some (.ret (.tup [.vs ((Rd.read s).1.map encL), .int .i64 (Rd.read s).2]), H) := by
  rw [ref03_Read_E, ref03_Read_eq]
  unfold Rd.read
  by_cases h1 : 50000 < s.length
  · have h1' : (50000 : Int) < (s.length : Int) := by omega
    rw [if_pos h1]
    simp (maxDischargeDepth := 9) only [Qah, Qbe, Qfg, Qeg, Qda, Qdl, Qdw, Qdv, Qdg, Qdf, Qep, Qgm, Qgd, Qbf, Qca, Qcd, Qcg, Qde, Qdd, decide_true, if_true, Option.bind_some, Option.map_some, Nat.reduceAdd, Nat.zero_le, Nat.max_self, h1', List.map_nil]
  · have h1' : ¬ (50000 : Int) < (s.length : Int) := by omega
    rw [if_neg h1]
    have k := r_Read_l (S := s) (by omega) (H0 := H) (p := H.length) s.length [] (a := 0) (v := .nils) (G := .var [.str s, .int .i64 0, .int .i64 0] :: H) (Qcm rfl) (.inl ⟨rfl, rfl⟩) (by rw [htrunc_cons (Nat.le_refl _), Qda]) (Nat.zero_le _) (by simp) (by simp)
    rw [List.drop_zero] at k
    simp (maxDischargeDepth := 9) only [Qah, Qag, Qbd, Qfg, Qeg, Qda, Qbb, Qao, Qgr, Qgq, Qgv, Qhe, Qdl, Qdw, Qdv, Qdg, Qdf, Qhi, Qfy, Qeq, Qep, Qai, Qgm, Qgd, Qbf, Qca, Qcd, Qcg, Qde, Qdd, decide_false, if_true, List.drop_zero, List.drop_succ_cons, List.length_cons, List.length_nil, Nat.zero_add, Option.bind_some, Option.map_some, Bool.and_true, List.nil_append, List.cons_append, Nat.reduceAdd, le_s, Nat.le_refl, Nat.zero_le, and_self, Nat.max_self, h1', List.getElem?_cons_zero, k]
    cases Rd.rulesL s.length [] s <;> rfl
end Go.Proofs.YthcjjicplodhjaaDoor
end

section
/- The laws' own functions: what is the same. -/
namespace Go.Proofs.YthcjjicplodhjaaDoor
open Go Go.Ev
set_option linter.unusedVariables false
set_option linter.unusedSimpArgs false

theorem encEs_length (l : List Rd.Expr) : (encEs l).length = l.length := by rw [encEs_map, List.length_map]
theorem len_encI (l : List Int) : oLenSl (encI l) = some (.int .i64 l.length) := by simp [encI]
theorem idx_encI {l : List Int} {i : Nat} {x : Int} (h : l[i]? = some x) : oIndexPtr 1 (encI l) (.int .i64 i) = some (.fptr [.int .i64 x]) :=
  oIndexPtr_vs (y := .int .i64 x) (by simp [h]) rfl
theorem idx_encEs {l : List Rd.Expr} {i : Nat} {x : Rd.Expr} (h : l[i]? = some x) : oIndexPtr 6 (.vs (encEs l)) (.int .i64 i) = some (.fptr (encE x).cells) :=
  oIndexPtr_vs (y := encE x) (by rw [encEs_map]; simp [h]) (by simp)
theorem take_encE (x : Rd.Expr) : takeCells true 6 (encE x).cells = some (encE x) := by cases x; rfl

theorem c_Same_1 {b : Nat} {cs : List V} {H : Heap} {n : List Int} (h1 : hget H b = some (.var cs)) (h2 : hget H (b + 1) = some (.var cs)) (hc : cs[2]? = some (encI n)) (hl : cs.length = 6) (hn : n.length < 1000000) : ∀ (m i : Nat), n.length - i = m → i ≤ n.length →
    ref03_Same_l1 b (.ptr b 0 0) (.ptr (b + 1) 0 0) (.int .i64 i) H = ref03_Same_l2 b (.ptr b 0 0) (.ptr (b + 1) 0 0) (.int .i64 0) H
  | m, i, hm, hi => by
    match cs, hl, hc with
    | [c0, c1, c2, c3, c4, c5], _, hc =>
      have hc' : c2 = encI n := by simpa using hc
      subst hc'
      rw [ref03_Same_l1_eq]
      by_cases h : i < n.length
      · have h' : (i : Int) < (n.length : Int) := by omega
        obtain ⟨m, rfl⟩ : ∃ k, m = k + 1 := ⟨m - 1, by omega⟩
        have hx : n[i]? = some n[i] := List.getElem?_eq_getElem h
        have ih := c_Same_1 h1 h2 hc rfl hn m (i + 1) (by omega) (by omega)
        simp (maxDischargeDepth := 9) only [Qah, Qbe, Qbd, Qew, Qea, Qek, Qei, Qdc, Qfk, Qhm, Qgf, decide_true, Bool.not_true, List.drop_zero, List.drop_succ_cons, Nat.zero_add, oLoad_ptr, h1, h2, len_encI, idx_encI hx, h', wrap_succ (show i < 4611686018427387904 by omega), ih]
      · have h' : ¬ (i : Int) < (n.length : Int) := by omega
        simp (maxDischargeDepth := 9) only [Qah, Qbd, Qew, Qea, Qei, Qdc, Qhm, Qgf, decide_false, List.drop_zero, List.drop_succ_cons, Nat.zero_add, oLoad_ptr, h1, h2, len_encI, h']

theorem c_Same_2 {b : Nat} {cs : List V} {H H0 : Heap} {ks : List Rd.Expr} (h1 : hget H b = some (.var cs)) (h2 : hget H (b + 1) = some (.var cs)) (hc : cs[5]? = some (.vs (encEs ks))) (hl : cs.length = 6) (hn : ks.length < 1000000) (ht : htrunc H b = H0)
    (hk : ∀ x ∈ ks, ∀ H : Heap, E n_ref03_Same [encE x, encE x] H = some (.ret (.bool true), H)) : ∀ (m i : Nat), ks.length - i = m → i ≤ ks.length →
    ref03_Same_l2 b (.ptr b 0 0) (.ptr (b + 1) 0 0) (.int .i64 i) H = some (.ret (.bool true), H0)
  | m, i, hm, hi => by
    match cs, hl, hc with
    | [c0, c1, c2, c3, c4, c5], _, hc =>
      have hc' : c5 = .vs (encEs ks) := by simpa using hc
      subst hc'
      rw [ref03_Same_l2_eq]
      by_cases h : i < ks.length
      · have h' : (i : Int) < (ks.length : Int) := by omega
        obtain ⟨m, rfl⟩ : ∃ k, m = k + 1 := ⟨m - 1, by omega⟩
        have hx : ks[i]? = some ks[i] := List.getElem?_eq_getElem h
        have hk' := hk ks[i] (List.getElem_mem h) H
        have ih := c_Same_2 h1 h2 hc rfl hn ht hk m (i + 1) (by omega) (by omega)
        simp (maxDischargeDepth := 9) only [Qah, Qab, Qbe, Qbd, Qew, Qfx, Qff, Qea, Qei, Qdc, Qfk, Qhm, Qgf, Qhl, Qbh, Qbg, Qbp, decide_true, Bool.not_true, List.drop_zero, List.drop_succ_cons, Nat.zero_add, oLoad_ptr, Nat.le_refl, h1, h2, encEs_length, idx_encEs hx, take_encE, hk', h', wrap_succ (show i < 4611686018427387904 by omega), ih]
      · have h' : ¬ (i : Int) < (ks.length : Int) := by omega
        simp (maxDischargeDepth := 9) only [Qah, Qbd, Qew, Qff, Qea, Qei, Qdc, Qhm, Qgf, decide_false, List.drop_zero, List.drop_succ_cons, Nat.zero_add, oLoad_ptr, h1, h2, encEs_length, h', ht]
end Go.Proofs.YthcjjicplodhjaaDoor
end

section
/- The laws' own functions: lines that are the same (for a seat without reader.Read). -/
namespace Go.Proofs.YthcjjicplodhjaaDoor
open Go Go.Ev
set_option linter.unusedVariables false
set_option linter.unusedSimpArgs false

theorem c_Same {e : Rd.Expr} (h : e.Ok) : ∀ H : Heap, E n_ref03_Same [encE e, encE e] H = some (.ret (.bool true), H) := by
  induction h with
  | @mk k t n lo hi ks hn hk _ ih =>
    intro H
    have h2 := c_Same_2 (b := H.length) (H := .var (encE (.mk k t n lo hi ks)).cells :: .var (encE (.mk k t n lo hi ks)).cells :: H) (cs := (encE (.mk k t n lo hi ks)).cells) (H0 := H) (ks := ks) (by simp) (by simp) rfl (by simp) hk (by rw [htrunc_cons (by simp), htrunc_cons (by simp), Qda]) ih ks.length 0 rfl (Nat.zero_le _)
    have h1 := c_Same_1 (b := H.length) (H := .var (encE (.mk k t n lo hi ks)).cells :: .var (encE (.mk k t n lo hi ks)).cells :: H) (cs := (encE (.mk k t n lo hi ks)).cells) (n := n) (by simp) (by simp) rfl (by simp) hn n.length 0 rfl (Nat.zero_le _)
    simp only [Qam] at h1 h2
    rw [h2] at h1
    rw [ref03_Same_E, ref03_Same_eq]
    simp only [encE, Qao] at h1 ⊢
    simp (maxDischargeDepth := 9) only [Qah, Qag, Qbd, Qcl, Qft, Qew, Qff, Qek, Qen, Qda, Qdc, Qhm, Qgf, Qao, Qgr, Qgq, Qgv, Qhe, Qhf, Qcu, Qcn, Qcm, Qfy, Qbs, decide_true, Bool.not_true, List.drop_zero, List.drop_succ_cons, List.length_cons, Nat.add_zero, Nat.zero_add, Bool.and_true, oLoad_ptr, le_s, Nat.le_refl, Nat.lt_add_one, len_encI, encEs_length, h1]

theorem idx_encL {l : List Rd.Line} {i : Nat} {x : Rd.Line} (h : l[i]? = some x) : oIndexPtr 8 (.vs (l.map encL)) (.int .i64 i) = some (.fptr (.str x.name :: .bool x.more :: (encE x.expr).cells)) :=
  oIndexPtr_vs (y := encL x) (by simp [h]) (by simp [encL])
theorem c_SameLines_l {l : List Rd.Line} (hl : l.length < 1000000) (hok : ∀ x ∈ l, x.expr.Ok) {H : Heap} : ∀ (m i : Nat), l.length - i = m → i ≤ l.length →
    ref03_SameLines_l1 H.length (.vs (l.map encL)) (.vs (l.map encL)) (.int .i64 i) H = some (.ret (.bool true), H)
  | m, i, hm, hi => by
    rw [ref03_SameLines_l1_eq]
    by_cases h : i < l.length
    · have h' : (i : Int) < (l.length : Int) := by omega
      obtain ⟨m, rfl⟩ : ∃ k, m = k + 1 := ⟨m - 1, by omega⟩
      have hx : l[i]? = some l[i] := List.getElem?_eq_getElem h
      have ih := c_SameLines_l hl hok (H := H) m (i + 1) (by omega) (by omega)
      have hs := c_Same (hok l[i] (List.getElem_mem h)) H
      simp (maxDischargeDepth := 9) only [Qah, Qab, Qbe, Qbd, Qcl, Qfp, Qft, Qfx, Qff, Qea, Qei, Qen, Qed, Qda, Qfk, Qhm, Qgf, Qhl, Qbh, Qbg, Qbp, decide_true, Bool.not_true, List.drop_zero, List.drop_succ_cons, List.length_cons, Nat.reduceAdd, beq_self_eq_true, le_s, Nat.le_refl, List.length_map, idx_encL hx, take_encE, hs, h', wrap_succ (show i < 4611686018427387904 by omega), ih, oFieldPtr_fptr]
    · have h' : ¬ (i : Int) < (l.length : Int) := by omega
      simp (maxDischargeDepth := 9) only [Qah, Qbd, Qfp, Qff, Qea, Qei, Qda, Qgf, decide_false, List.length_map, h']
theorem c_SameLines {l : List Rd.Line} (hl : l.length < 1000000) (hok : ∀ x ∈ l, x.expr.Ok) (H : Heap) : E n_ref03_SameLines [.vs (l.map encL), .vs (l.map encL)] H = some (.ret (.bool true), H) := by
  rw [ref03_SameLines_E, ref03_SameLines_eq]
  have h := c_SameLines_l hl hok (H := H) l.length 0 rfl (Nat.zero_le _)
  simp only [Qam] at h
  simp (maxDischargeDepth := 9) only [Qah, Qbd, Qff, Qek, Qda, Qgf, decide_true, Bool.not_true, h]

end Go.Proofs.YthcjjicplodhjaaDoor
end

