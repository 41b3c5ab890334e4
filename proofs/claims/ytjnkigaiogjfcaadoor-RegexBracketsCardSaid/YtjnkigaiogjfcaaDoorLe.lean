/- Le: a part of the proof that each law of this seat answers true at every input. No condition. -/
import Derived.Test.YtjnkigaiogjfcaaDoorLd
set_option linter.unusedVariables false
set_option linter.unusedSimpArgs false
set_option maxRecDepth 20000
section
/- The law: brackets make no difference, nor order, nor what is there twice. -/
namespace Go.Proofs.YtjnkigaiogjfcaaDoor
open Go Go.Ev Go.X7 Go.Srt
set_option linter.unusedVariables false
set_option linter.unusedSimpArgs false
set_option maxRecDepth 20000

theorem headL_X (l : List X) : headLen 6 (encXs l) = true := by
 cases l with
 | nil => rfl
 | cons x l => simp [encXs, headLen]
theorem sliceX_to {l : List X} {k : Nat} (h : k ≤ l.length) : oSlice 6 (.vs (encXs l)) none (some (.int .i64 (k : Int))) none = some (.vs (encXs (l.take k))) := by
 rw [oSlice_eq]
 have e : List.take k (encXs l) = encXs (l.take k) := by rw [encXs_map, encXs_map, List.map_take]
 have h2 : (k : Int) ≤ ((encXs l).length : Int) := by simp; omega
 simp only [vSlice, headL_X, if_true, Option.isSome_none, Bool.false_eq_true, if_false, vBound, Option.bind_some]
 rw [if_pos ⟨by omega, h2⟩]
 simp [e]
theorem sliceX_from {l : List X} {k : Nat} (h : k ≤ l.length) : oSlice 6 (.vs (encXs l)) (some (.int .i64 (k : Int))) none none = some (.vs (encXs (l.drop k))) := by
 rw [oSlice_eq]
 have e : List.drop k (encXs l) = encXs (l.drop k) := by rw [encXs_map, encXs_map, List.map_drop]
 have h2 : (k : Int) ≤ ((encXs l).length : Int) := by simp; omega
 simp only [vSlice, headL_X, if_true, Option.isSome_none, Bool.false_eq_true, if_false, vBound, Option.bind_some]
 rw [if_pos ⟨by omega, h2⟩]
 simp [List.take_of_length_le, e]
theorem p7_TextOf {x : X} (hs : x.size ≤ 1000000) (ho : x.ok) (G : Heap) : E n_regex_Text [encX x] G = some (.ret (.str (txt x)), G) := p7_Text hs ho G
theorem law_RegexBrackets {L : List Int} (hL : ∀ n ∈ L, 0 ≤ n ∧ n ≤ 255) (hl : L.length ≤ 9223372036854775807) (c : Int) (hc : 0 ≤ c ∧ c ≤ 255) : E n_law07_RegexBrackets [.vs (L.map (V.int .u8)), .int .u8 c] [] = some (.ret (.bool true), []) := by
 have aw := fun G => c7_awake G
 obtain ⟨l, hln, hf, few⟩ := c7_Few hL hl []
 have hsz := few_sizes hf hln (Nat.le_refl _)
 have hR : ∀ x ∈ l, Rt x := fun x hx => (hf x hx).rt
 have hO : ∀ x ∈ l, x.ok := fun x hx => (hf x hx).ok
 have hxs : ∀ x ∈ l, x.size ≤ 256 := fun x hx => by have := (hf x hx).size; simpa using this
 rw [law07_RegexBrackets_E, law07_RegexBrackets_eq]
 by_cases hlt : l.length < 2
 ·have h2 : (l.length : Int) < 2 := by omega
  simp (maxDischargeDepth := 9) only [Qah, Qab, Qbd, Qbc, Qfu, Qey, Qfc, Qel, Qef, Qgc, Qbp, decide_true, Bool.not_true, List.length_nil, aw, few, h2]
  rfl
 ·have h2 : ¬ (l.length : Int) < 2 := by omega
  have w1 : IntKind.i64.wrap c = c := wrap_i64 (by omega) (by omega)
  have w2 : IntKind.i64.wrap ((l.length : Int) - 1) = (l.length : Int) - 1 := wrap_i64 (by omega) (by omega)
  have hm : 0 ≤ c % ((l.length : Int) - 1) ∧ c % ((l.length : Int) - 1) < (l.length : Int) - 1 := ⟨Int.emod_nonneg _ (by omega), Int.emod_lt_of_pos _ (by omega)⟩
  have rm : oBin .rem 6 (.int .i64 c) (.int .i64 ((l.length : Int) - 1)) = some (.int .i64 (c % ((l.length : Int) - 1))) := by
   rw [oBin_rem _ _ _ _ (by omega), Int.tmod_eq_emod_of_nonneg hc.1]
  obtain ⟨k, hk⟩ : ∃ k : Nat, 1 + c % ((l.length : Int) - 1) = k := ⟨(1 + c % ((l.length : Int) - 1)).toNat, by omega⟩
  have hkl : k ≤ l.length := by omega
  have w3 : IntKind.i64.wrap (1 + c % ((l.length : Int) - 1)) = (k : Int) := by rw [wrap_i64 (by omega) (by omega)]; exact hk
  have sp : ∀ x ∈ l.take k, x ∈ l := fun x hx => List.mem_of_mem_take hx
  have sq : ∀ x ∈ l.drop k, x ∈ l := fun x hx => List.mem_of_mem_drop hx
  have hpq : l.take k ++ l.drop k = l := List.take_append_drop k l
  have hszp : sizes (l.take k) ≤ 1024 ∧ sizes (l.drop k) ≤ 1024 := by
   have := sizes_append (l.take k) (l.drop k)
   rw [hpq] at this
   omega
  have key : ∀ (i : Nat) (acc : List X) (o : V) (G : Heap), i ≤ l.length → Out7 0 G o acc → (∀ x ∈ acc, x ∈ l) → (∀ j (hj : j < l.length), i ≤ j → l[j] ∈ acc) → acc.length + 2 * i ≤ 8 →
    law07_RegexBrackets_l1 0 (.bool true) (.vs (encXs l)) (.int .i64 (k : Int)) o (.int .i64 ((i : Int) - 1)) G = some (.ret (.bool true), []) := by
   intro i
   induction i with
   | zero =>
    intro acc o G hi ho ha hb hlen
    have h' : ¬ (0 : Int) ≤ -1 := by omega
    have hperm : ∀ x, x ∈ acc ↔ x ∈ l := fun x => ⟨ha x, fun hx => by
     obtain ⟨j, hj, rfl⟩ := List.getElem_of_mem hx
     exact hb j hj (Nat.zero_le _)⟩
    have hsa : sizes acc ≤ 2048 := by
     have h1 := sizes_le (l := acc) (b := 256) fun x hx => hxs x (ha x hx)
     have h2 := Nat.mul_le_mul_right 256 (show acc.length ≤ 8 by omega)
     omega
    have c1 := fun G => p7_Cat (H := G) (Sl.vs l) (by omega)
    have t1 := fun G => p7_TextOf (x := catX l) (by have := catX_size l; omega) (catX_ok hO) G
    have c2 := fun G => p7_Either (H := G) (Sl.vs l) (by omega) hO
    have t2 := fun G => p7_TextOf (x := eitherX l) (by have := eitherX_size l; omega) (eitherX_ok hO) G
    have c3 := fun G => p7_Cat (H := G) (Sl.vs (l.take k)) (by omega)
    have c4 := fun G => p7_Cat (H := G) (Sl.vs (l.drop k)) (by omega)
    have z1 := catX_size (l.take k)
    have z2 := catX_size (l.drop k)
    have lt1 := fun z => lit2 z (catX (l.take k)) (catX (l.drop k))
    have c5 := fun G => p7_Cat (H := G) (Sl.vs [catX (l.take k), catX (l.drop k)]) (by simp only [sizes]; omega)
    rw [cat_brackets (fun x hx => hR x (sp x hx)) (fun x hx => hR x (sq x hx)), hpq] at c5
    have c6 := fun G => p7_Either (H := G) (Sl.vs (l.take k)) (by omega) fun x hx => hO x (sp x hx)
    have c7 := fun G => p7_Either (H := G) (Sl.vs (l.drop k)) (by omega) fun x hx => hO x (sq x hx)
    have z3 := eitherX_size (l.take k)
    have z4 := eitherX_size (l.drop k)
    have ok2 : ∀ x ∈ [eitherX (l.take k), eitherX (l.drop k)], x.ok := fun x hx => by
     simp only [List.mem_cons, List.not_mem_nil, or_false] at hx
     rcases hx with rfl | rfl
     ·exact eitherX_ok fun x hx => hO x (sp x hx)
     ·exact eitherX_ok fun x hx => hO x (sq x hx)
    have lt2 := fun z => lit2 z (eitherX (l.take k)) (eitherX (l.drop k))
    have c8 := fun G => p7_Either (H := G) (Sl.vs [eitherX (l.take k), eitherX (l.drop k)]) (by simp only [sizes]; omega) ok2
    have t3 := fun G => p7_TextOf (x := eitherX [eitherX (l.take k), eitherX (l.drop k)]) (by
     have := eitherX_size [eitherX (l.take k), eitherX (l.drop k)]
     simp only [sizes] at this
     omega) (eitherX_ok ok2) G
    rw [either_brackets (fun x hx => hR x (sp x hx)) (fun x hx => hR x (sq x hx)) (fun x hx => hO x (sp x hx)) (fun x hx => hO x (sq x hx)), hpq] at t3
    have hoa : ∀ x ∈ acc, x.ok := fun x hx => hO x (ha x hx)
    have c9 := p7_Either (H := G) ho.sl (by omega) hoa
    have t4 := fun G => p7_TextOf (x := eitherX acc) (by have := eitherX_size acc; omega) (eitherX_ok hoa) G
    rw [either_perm hoa hperm] at t4
    have ht : htrunc G 0 = [] := by simp [htrunc]
    have s1 := sliceX_to hkl
    have s2 := sliceX_from hkl
    have nx : ∀ x : X, ∃ k s ks, x = .mk k s ks := fun x => by cases x with | mk k s ks => exact ⟨k, s, ks, rfl⟩
    rw [show (((0 : Nat) : Int) - 1) = -1 from rfl, law07_RegexBrackets_l1_eq]
    generalize eitherX acc = xa at c9 t4
    generalize eitherX [eitherX (l.take k), eitherX (l.drop k)] = xb at c8 t3
    generalize eitherX (l.take k) = xc at c6 lt2 c8
    generalize eitherX (l.drop k) = xd at c7 lt2 c8
    generalize catX (l.take k) = xe at c3 lt1 c5
    generalize catX (l.drop k) = xf at c4 lt1 c5
    simp (maxDischargeDepth := 9) only [Qah, Qab, Qbc, Qci, Qfm, Qfr, Qel, Qec, Qej, Qgc, decide_true, decide_false, h', c1, t1, c2, t2, s1, s2, c3, c4, lt1, c5, c6, c7, lt2, c8, t3, c9, t4, ht]
   | succ i ih =>
    intro acc o G hi ho ha hb hlen
    have h : i < l.length := by omega
    have e0 : (((i + 1 : Nat) : Int) - 1) = (i : Int) := by omega
    have h' : (0 : Int) ≤ (i : Int) := by omega
    have i1 := idxX h .i64
    have i0 := idxX (show 0 < l.length by omega) .i64
    have w4 : IntKind.i64.wrap ((i : Int) - 1) = (i : Int) - 1 := wrap_i64 (by omega) (by omega)
    have lt := fun z => lit2 z l[i] l[0]
    obtain ⟨v', G', q1, q2, q3⟩ := (show Out7 ([] : Heap).length G o acc from ho).app ⟨G, by simp⟩ [l[i], l[0]] (by simp; omega)
    have k2 := ih (acc ++ [l[i], l[0]]) v' G' (by omega) q2 (fun x hx => by
     rcases List.mem_append.1 hx with hx | hx
     ·exact ha x hx
     ·simp only [List.mem_cons, List.not_mem_nil, or_false] at hx
      rcases hx with rfl | rfl
      ·exact List.getElem_mem _
      ·exact List.getElem_mem _) (fun j hj hij => by
     by_cases e : j = i
     ·subst e; simp
     ·exact List.mem_append_left _ (hb j hj (by omega))) (by simp; omega)
    simp only [Qam, List.length_nil] at q1 i0
    rw [e0, law07_RegexBrackets_l1_eq]
    simp (maxDischargeDepth := 9) only [Qah, Qag, Qbd, Qci, Qfm, Qfr, Qel, Qec, Qfh, Qhi, Qbg, Qbf, Qbo, decide_true, Nat.le_refl, h', i1, i0, takeX, lt, q1, w4, k2]
  have k1 := key l.length [] .nils [] (Nat.le_refl _) .nils (by simp) (fun j hj h => by omega) (by simp; omega)
  simp (maxDischargeDepth := 9) only [Qah, Qab, Qbc, Qfu, Qey, Qfc, Qdx, Qel, Qef, Qgc, Qbp, decide_false, Bool.not_true, List.length_nil, aw, few, h2, w1, w2, rm, w3, k1]
end Go.Proofs.YtjnkigaiogjfcaaDoor
end

