/- Td: a part of the proof that each law of this seat answers true at every input. No condition. -/
import Derived.Test.YthcjjicplodhjaaDoorTc
import Derived.Test.YthcjjicplodhjaaDoorTe
import Derived.Test.YthcjjicplodhjaaDoorEnc
set_option linter.unusedVariables false
set_option linter.unusedSimpArgs false
set_option maxRecDepth 20000
section
/- Rules as texts: the document's Tell, the teller's. -/
namespace Go.Proofs.YthcjjicplodhjaaDoor
open Go Go.Ev
set_option linter.unusedVariables false
set_option linter.unusedSimpArgs false

theorem itoa3 : ∀ n : Int, 0 ≤ n → n ≤ 200 → (Lib.itoa n).length ≤ 3 := fun n h0 h1 => itoa_len h0 h1
theorem line_text {x : Rd.Line} (hw : Te.wL x ≤ 1000000) (h : Te.right 50 x.expr = true) : (Te.text x.expr).length ≤ 17000000 := by
  have := Te.text_le itoa3 50 x.expr h
  unfold Te.wL at hw
  omega
theorem line_fit {x : Rd.Line} (hw : Te.wL x ≤ 1000000) : x.expr.Fit := Te.fit_of _ (by unfold Te.wL at hw; omega)
theorem c4_Tell_l {l : List Rd.Line} (H : Heap) : Te.wLs l ≤ 1000000 → ∀ s : List UInt8, s.length + 17 * Te.wLs l ≤ 1000000000 →
    oTellL E n_teller_Name n_teller_Right n_teller_text H (l.map encL) s = some (.ret (let r := if l.all Te.lineOk then (s ++ (l.map Te.lineT).flatten, (0 : Int)) else ([], 1); .tup [.str r.1, .int .i64 r.2]), H) := by
  induction l with
  | nil => intro hl s hb; simp [oTellL]
  | cons x l ih =>
    intro hl s hb
    have hw := Te.wLs_mem (l := x :: l) (x := x) (by simp)
    have hN := c4_Name (s := x.name) (by unfold Te.wL at hw; omega) []
    have hF := line_fit (x := x) (by omega)
    have hR := c4_Right hF []
    have ea : V.agg (encE x.expr).cells = encE x.expr := by simp
    have em : (x :: l).map encL = encL x :: l.map encL := rfl
    rw [em]
    obtain ⟨ek, et, en, elo, ehi, eks, hxe⟩ : ∃ ek et en elo ehi eks, x.expr = .mk ek et en elo ehi eks := by cases x.expr; exact ⟨_, _, _, _, _, _, rfl⟩
    have ec : encL x = .agg [.str x.name, .bool x.more, .int .i64 ek, .str et, .vs (en.map (V.int .i64)), .int .i64 elo, .int .i64 ehi, .vs (encEs eks)] := by unfold encL; rw [hxe]; rfl
    have ee : encE x.expr = .agg [.int .i64 ek, .str et, .vs (en.map (V.int .i64)), .int .i64 elo, .int .i64 ehi, .vs (encEs eks)] := by rw [hxe]; rfl
    rw [ee] at hR
    rw [ec]
    simp only [oTellL, hN, Option.bind_some, sameH_ret]
    cases hn : Te.name x.name
    · rw [Te.tell_bad _ _ _ (by simp [Te.lineOk, hn])]
    · simp only [hR, Option.bind_some, sameH_ret]
      cases hr : Te.right 50 x.expr
      · rw [Te.tell_bad _ _ _ (by simp [Te.lineOk, hr])]
      · have hok : Te.lineOk x = true := by simp [Te.lineOk, hn, hr]
        rw [Te.tell_cons _ _ _ hok]
        have hlt := line_text (x := x) (by omega) hr
        have hT := c4_text 50 hF hr (by omega) []
        rw [ee] at hT
        have hln := Te.lineT_len itoa3 hok
        have hnm : x.name.length ≤ 1000000 := by unfold Te.wL at hw; omega
        simp only [Te.wLs] at hb hl
        simp only [hT, Option.bind_some, sameH_ret]
        rw [if_pos (by omega)]
        exact ih (by omega) (s ++ Te.lineT x) (by rw [List.length_append]; omega)
theorem c4_Tell {l : List Rd.Line} (hl : Te.wLs l ≤ 1000000) (H : Heap) : E n_teller_Tell [.vs (l.map encL)] H = some (.ret (.tup [.str (Te.tell l).1, .int .i64 (Te.tell l).2]), H) := by
  rw [show E = EV Tryd.prog hint D from rfl, EV_orc (g := oTell n_teller_Name n_teller_Right n_teller_text) rfl]
  have h := c4_Tell_l H hl [] (by simp; omega)
  simp only [List.nil_append] at h
  have hll := Te.wLs_len l
  unfold oTell
  simp only [List.length_map]
  rw [if_pos (by omega)]
  exact h
end Go.Proofs.YthcjjicplodhjaaDoor
end

section
/- The laws' own functions: how much there is; is it what the document says? -/
namespace Go.Proofs.YthcjjicplodhjaaDoor
open Go Go.Ev
set_option linter.unusedVariables false
set_option linter.unusedSimpArgs false

abbrev xB : Rd.Expr := .mk 4 [98] [] 0 0 []
abbrev xC : Rd.Expr := .mk 5 [99] [] 0 0 []
abbrev xR : Rd.Expr := .mk 3 [] [] 1 2 [xB]
abbrev xA : Rd.Expr := .mk 1 [] [] 0 0 [xR, xC]
theorem l4_awake (H : Heap) : E n_law04_awake [] H = some (.ret (.bool true), H) := by
  rw [law04_awake_E, law04_awake_eq]
  have t1 := c4_Tell (l := [⟨[97], false, xA⟩]) (by decide)
  have t2 := c4_Tell (l := [⟨[65], false, xA⟩]) (by decide)
  have e1 : Te.tell [⟨[97], false, xA⟩] = ([97, 32, 61, 32, 49, 42, 50, 98, 32, 47, 32, 34, 99, 34, 10], 0) := by decide +kernel
  have e2 : Te.tell [⟨[65], false, xA⟩] = ([], 1) := by decide +kernel
  rw [e1] at t1
  rw [e2] at t2
  have r1 := fun H => c4_Right (e := xA) (Te.fit_of _ (by decide)) H
  have r2 := fun H => c4_Right (e := .mk 0 [] [] 0 0 []) (Te.fit_of _ (by decide)) H
  have f1 : Te.right 50 xA = true := by decide +kernel
  have f2 : Te.right 50 (.mk 0 [] [] 0 0 []) = false := by decide +kernel
  rw [f1] at r1
  rw [f2] at r2
  have n1 := fun H => c4_Name (s := [97, 45, 49]) (by simp) H
  have n2 : Te.name [97, 45, 49] = true := by decide
  rw [n2] at n1
  have l1 := fun z => (isE_nn 4 [98] 0 0).lit1 z
  have l2 := fun z => (isE_nk 3 [] 1 2 [xB]).lit2 (isE_nn 5 [99] 0 0) z
  have q1 := fun H => (c4_Right_N (.agg [.int .i64 1, .str [], .nils, .int .i64 0, .int .i64 0, .vs (encEs [xR, xC])]) H).trans (r1 H)
  have q2 := fun H => (c4_Right_N (.agg [.int .i64 0, .str [], .nils, .int .i64 0, .int .i64 0, .nils]) H).trans (r2 H)
  simp (maxDischargeDepth := 9) only [Qah, Qag, Qab, Qcl, Qfp, Qfu, Qfx, Qet, Qeu, Qee, Qem, Qda, Qdc, Qgf, Qao, Qgr, Qgq, Qgv, Qhe, Qhb, Qhf, Qdl, Qdu, Qdr, Qdw, Qdh, Qdg, Qdf, Qhk, Qhi, Qcu, Qcm, Qcq, Qfy, Qhl, Qeq, decide_true, Bool.not_false, if_true, List.drop_zero, List.drop_succ_cons, List.length_cons, List.length_nil, Nat.zero_add, Bool.and_true, List.append_nil, Nat.reduceAdd, oLoad_ptr, oStore_ptr, List.drop_nil, le_s, Nat.le_refl, Nat.zero_le, or_true, true_or, and_true, and_self, Nat.max_self, List.take_zero, List.take_succ_cons, bE_text, l1, bE_rep, l2, bE_kids, bL_nk, litL_nk, t1, t2, q1, q2, n1]
end Go.Proofs.YthcjjicplodhjaaDoor
end

section
/- The statements about names; about what stands so often. -/
namespace Go.Proofs.YthcjjicplodhjaaDoor
open Go Go.Ev
set_option linter.unusedVariables false
set_option linter.unusedSimpArgs false

end Go.Proofs.YthcjjicplodhjaaDoor
end

