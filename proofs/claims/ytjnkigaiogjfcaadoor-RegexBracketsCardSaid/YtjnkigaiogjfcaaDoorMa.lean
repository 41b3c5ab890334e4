/- Ma: a part of the proof that each law of this seat answers true at every input. No condition. -/
import Derived.Test.YtjnkigaiogjfcaaDoorLa
import Derived.Test.YtjnkigaiogjfcaaDoorXb
set_option linter.unusedVariables false
set_option linter.unusedSimpArgs false
set_option maxRecDepth 20000
section
/- Numbers that are taken one by one. -/
namespace Go.Proofs.YtjnkigaiogjfcaaDoor
open Go Go.Ev Go.X7 Go.Srt
set_option linter.unusedVariables false
set_option linter.unusedSimpArgs false

/-- A picker: its numbers, where it stands. -/
abbrev pickB (L : List Int) (a : Nat) : Blk := .var [.vs (L.map (V.int .u8)), .int .i64 (a : Int)]
theorem c7_pick {L : List Int} (hL : ∀ n ∈ L, 0 ≤ n ∧ n ≤ 255) (hl : L.length ≤ 9223372036854775807) {a : Nat} (ha : a ≤ 1000000) {n : Int} (hn : 1 ≤ n ∧ n ≤ 1000000) {G : Heap} {i : Nat} (hg : hget G i = some (pickB L a)) :
  ∃ r : Int, 0 ≤ r ∧ r < n ∧ E n_law07_picker_pick [.ptr i 0 0, .int .i64 n] G = some (.ret (.int .i64 r), hset G i (pickB L (a + 1))) := by
 have hi := hget_lt hg
 rw [law07_picker_pick_E, law07_picker_pick_eq]
 have w1 : IntKind.i64.wrap ((a : Int) + 1) = ((a + 1 : Nat) : Int) := by rw [wrap_i64 (by omega) (by omega)]; omega
 have w2 : IntKind.i64.wrap (((a + 1 : Nat) : Int) - 1) = (a : Int) := by rw [wrap_i64 (by omega) (by omega)]; omega
 by_cases h1 : (L.length : Int) < ((a + 1 : Nat) : Int)
 ·refine ⟨0, by omega, by omega, ?_⟩
  simp (maxDischargeDepth := 9) only [Qah, Qag, Qbd, Qcg, Qfm, Qfr, Qfo, Qet, Qfc, Qdx, Qel, Qed, Qcz, Qhj, Qge, Qar, Qgo, Qgn, Qgs, Qdi, Qhh, Qhf, Qhe, Qcs, Qcl, decide_true, if_true, List.drop_zero, List.drop_succ_cons, List.length_cons, List.length_nil, Nat.add_zero, Nat.zero_add, Bool.and_true, List.append_nil, Nat.reduceAdd, oLoad_ptr, oStore_ptr, List.drop_nil, le_s, Nat.le_refl, Nat.zero_le, or_true, and_self, hg, hi, w1, List.length_map, h1]
 ·by_cases h2 : (150 : Int) < ((a + 1 : Nat) : Int)
  ·refine ⟨0, by omega, by omega, ?_⟩
   simp (maxDischargeDepth := 9) only [Qah, Qag, Qbd, Qci, Qfm, Qfq, Qfo, Qet, Qfc, Qdx, Qel, Qed, Qcz, Qhj, Qge, Qar, Qgo, Qgn, Qgs, Qdi, Qhh, Qhf, Qhe, Qcs, Qcl, decide_true, decide_false, if_true, List.drop_zero, List.drop_succ_cons, List.length_cons, List.length_nil, Nat.add_zero, Nat.zero_add, Bool.and_true, List.append_nil, Nat.reduceAdd, oLoad_ptr, oStore_ptr, List.drop_nil, le_s, Nat.le_refl, Nat.zero_le, or_true, and_self, hg, hi, w1, List.length_map, h1, h2]
  ·obtain ⟨z, hz, e1⟩ := idx_int (l := L) (k' := .u8) (i := (a : Int)) (k := .i64) (by omega) (by omega)
   obtain ⟨z0, z1⟩ := hL z hz
   have hm : 0 ≤ z % n ∧ z % n < n := ⟨Int.emod_nonneg _ (by omega), Int.emod_lt_of_pos _ (by omega)⟩
   have w3 : IntKind.i64.wrap z = z := wrap_i64 (by omega) (by omega)
   have w4 : IntKind.i64.wrap (z % n) = z % n := wrap_i64 (by omega) (by omega)
   refine ⟨z % n, hm.1, hm.2, ?_⟩
   simp (maxDischargeDepth := 9) only [Qah, Qag, Qbc, Qci, Qfm, Qfq, Qfo, Qet, Qey, Qfc, Qdx, Qel, Qed, Qcz, Qfh, Qhj, Qge, Qar, Qgo, Qgn, Qgs, Qdi, Qhh, Qhf, Qhe, Qcs, Qcl, decide_false, if_true, List.drop_zero, List.drop_succ_cons, List.length_cons, List.length_nil, Nat.add_zero, Nat.zero_add, Bool.and_true, List.append_nil, Nat.reduceAdd, oLoad_ptr, oStore_ptr, List.drop_nil, le_s, Nat.le_refl, Nat.zero_le, or_true, and_self, hg, hi, w1, w2, List.length_map, h1, h2, e1, w3, oBin_rem _ _ _ _ (show n ≠ 0 by omega), Int.tmod_eq_emod_of_nonneg z0, w4]
end Go.Proofs.YtjnkigaiogjfcaaDoor
end

section
/- Expressions by numbers, that are right. -/
namespace Go.Proofs.YtjnkigaiogjfcaaDoor
open Go Go.Ev Go.X7 Go.Srt
set_option linter.unusedVariables false
set_option linter.unusedSimpArgs false
set_option maxRecDepth 20000

theorem Out7.low {b : Nat} {G : Heap} {v : V} {l : List X} (h : Out7 b G v l) {i : Nat} (hi : i < b) (x : Blk) : Out7 b (hset G i x) v l := by
 cases h with
 | nils => exact .nils
 | rs j ver l hb hg => exact .rs j ver l hb (by rw [hget_hset_ne _ (by omega)]; exact hg)
/-- What an expression by numbers is, so many in one another. -/
structure Fit (d : Nat) (x : X) : Prop where
 rt : Rt x
 ok : x.ok
 size : x.size ≤ 4 ^ (d + 1)
def ReAt (L : List Int) (d : Nat) : Prop := ∀ (G : Heap) (i a : Nat), hget G i = some (pickB L a) → a + 4 ^ (d + 1) ≤ 100000 →
 ∃ (x : X) (a' : Nat), a ≤ a' ∧ a' ≤ a + 4 ^ (d + 1) ∧ Fit d x ∧ E n_law07_picker_re [.ptr i 0 0, .int .i64 d] G = some (.ret (encX x), hset G i (pickB L a'))
theorem c7_some {L : List Int} {d : Nat} (hx : ReAt L d) (hd : d ≤ 100) {n : Nat} (hn : n ≤ 100) {G : Heap} {i a : Nat} (hg : hget G i = some (pickB L a)) (ha : a + n * 4 ^ (d + 1) ≤ 100000) :
  ∃ (l : List X) (a' : Nat), a ≤ a' ∧ a' ≤ a + n * 4 ^ (d + 1) ∧ l.length = n ∧ (∀ x ∈ l, Fit d x) ∧ E n_law07_picker_some [.ptr i 0 0, .int .i64 n, .int .i64 d] G = some (.ret (.vs (encXs l)), hset G i (pickB L a')) := by
 have hi := hget_lt hg
 have key : ∀ (m j : Nat) (acc : List X) (o : V) (G' : Heap) (a : Nat), n - j = m → j ≤ n → acc.length = j → Out7 G.length G' o acc → Up (hset G i (pickB L a)) G' → a + m * 4 ^ (d + 1) ≤ 100000 →
   ∃ (ks : List X) (a' : Nat), a ≤ a' ∧ a' ≤ a + m * 4 ^ (d + 1) ∧ ks.length = m ∧ (∀ x ∈ ks, Fit d x) ∧
    law07_picker_some_l1 G.length (.ptr i 0 0) (.int .i64 n) (.int .i64 d) o (.int .i64 j) G' = some (.ret (.vs (encXs (acc ++ ks))), hset G i (pickB L a')) := by
  intro m
  induction m with
  | zero =>
   intro j acc o G' a hm hj hl ho hU ha
   refine ⟨[], a, Nat.le_refl _, by omega, rfl, by simp, ?_⟩
   have h' : ¬ (j : Int) < (n : Int) := by omega
   have hr := Out7.ret (H := hset G i (pickB L a)) (by rw [hset_length]; exact ho) hU
   rw [hset_length] at hr
   rw [law07_picker_some_l1_eq, List.append_nil]
   simp (maxDischargeDepth := 9) only [Qah, Qbc, Qdx, Qef, decide_false, h', hr]
  | succ m ih =>
   intro j acc o G' a hm hj hl ho hU ha
   have h' : (j : Int) < (n : Int) := by omega
   have hmul : (m + 1) * 4 ^ (d + 1) = m * 4 ^ (d + 1) + 4 ^ (d + 1) := Nat.succ_mul _ _
   have hg' : hget G' i = some (pickB L a) := by rw [hU.get (by simpa using hi), Qcl hi]
   obtain ⟨x, a1, h1, h2, h3, h4⟩ := hx G' i a hg' (by omega)
   have hU1 : Up (hset G i (pickB L a1)) (hset G' i (pickB L a1)) := by
    have := hU.set_low (i := i) (by simpa using hi) (pickB L a1)
    rwa [Qcp] at this
   have ho1 : Out7 (hset G i (pickB L a1)).length (hset G' i (pickB L a1)) o acc := by rw [hset_length]; exact ho.low hi _
   obtain ⟨v', G2, q1, q2, q3⟩ := ho1.app hU1 [x] (by simp; omega)
   rw [hset_length] at q1 q2
   obtain ⟨ks, a', k1, k2, k3, k4, k5⟩ := ih (j + 1) (acc ++ [x]) v' G2 a1 (by omega) (by omega) (by simp; omega) q2 q3 (by omega)
   refine ⟨x :: ks, a', by omega, by omega, by simp [k3], fun y hy => ?_, ?_⟩
   ·rcases List.mem_cons.1 hy with rfl | hy
    ·exact h3
    ·exact k4 y hy
   ·have w1 : IntKind.i64.wrap ((j : Int) + 1) = ((j + 1 : Nat) : Int) := by rw [wrap_i64 (by omega) (by omega)]; omega
    have e1 : encXs [x] = [encX x] := rfl
    rw [e1] at q1
    rw [List.append_assoc, List.cons_append, List.nil_append] at k5
    rw [law07_picker_some_l1_eq]
    simp (maxDischargeDepth := 9) only [Qah, Qag, Qab, Qbd, Qdx, Qef, Qfe, decide_true, h', h4, q1, w1, k5]
 obtain ⟨ks, a', k1, k2, k3, k4, k5⟩ := key n 0 [] .nils G a (by omega) (by omega) rfl .nils (by rw [hset_self hg]; exact Up.refl _) ha
 refine ⟨ks, a', k1, k2, k3, k4, ?_⟩
 simp only [List.nil_append, Qam] at k5
 rw [law07_picker_some_E, law07_picker_some_eq]
 exact k5
end Go.Proofs.YtjnkigaiogjfcaaDoor
end

section
/- Expressions by numbers, by their kinds; a few of them. -/
namespace Go.Proofs.YtjnkigaiogjfcaaDoor
open Go Go.Ev Go.X7 Go.Srt
set_option linter.unusedVariables false
set_option linter.unusedSimpArgs false
set_option maxRecDepth 20000

theorem quo3 {r : Int} (h0 : 0 ≤ r) (h1 : r < 4) : oBin .quo 6 (.int .i64 r) (.int .i64 3) = some (.int .i64 (r / 3)) := by
 rw [oBin_quo _ _ _ _ (by decide), Int.tdiv_eq_ediv_of_nonneg (by omega), wrap_i64 (by omega) (by omega)]
theorem rem5 {r : Int} (h0 : 0 ≤ r) (h1 : r < 100) : oBin .rem 6 (.int .i64 r) (.int .i64 5) = some (.int .i64 (r % 5)) := by
 rw [oBin_rem _ _ _ _ (by decide), Int.tmod_eq_emod_of_nonneg h0]
/-- A letter. -/
theorem fit_letter {d : Nat} {lo hi : Int} (h0 : 0 ≤ lo) (h1 : lo ≤ hi) (h2 : hi < 256) : ∃ s, S4.rng s lo hi ∧ Fit d (.mk 2 s []) := by
 obtain ⟨s, hs, -⟩ := r1_Of lo hi []
 refine ⟨s, hs, rt_2 (fun e => ?_), ⟨hs.1, trivial⟩, ?_⟩
 ·have := hs.2 lo.toNat (by omega)
  rw [e, S4.zero_has, show ((lo.toNat : Nat) : Int) = lo by omega] at this
  simp [h1] at this
 ·have : 0 < 4 ^ (d + 1) := Nat.pow_pos (by omega)
  simp only [X.size, sizes]; omega
theorem fit_k {d : Nat} {k : Int} (h : k = 0 ∨ k = 1) : Fit d (.mk k S4.zero []) := by
 have : 0 < 4 ^ (d + 1) := Nat.pow_pos (by omega)
 rcases h with rfl | rfl
 ·exact ⟨rt_0, ⟨S4.zero_ok, trivial⟩, by simp only [X.size, sizes]; omega⟩
 ·exact ⟨rt_1, ⟨S4.zero_ok, trivial⟩, by simp only [X.size, sizes]; omega⟩
theorem sizes_le {l : List X} {b : Nat} (h : ∀ x ∈ l, x.size ≤ b) : sizes l ≤ l.length * b := by
 induction l with
 | nil => simp [sizes]
 | cons x l ih =>
  have h1 := h x List.mem_cons_self
  have h2 := ih fun y hy => h y (List.mem_cons_of_mem _ hy)
  have h3 : (l.length + 1) * b = l.length * b + b := Nat.succ_mul _ _
  simp only [sizes, List.length_cons]; omega
theorem pow4 (d : Nat) : 4 ^ (d + 1 + 1) = 4 * 4 ^ (d + 1) ∧ 4 ≤ 4 ^ (d + 1) := by
 constructor
 ·rw [Nat.pow_succ 4 (d + 1)]; omega
 ·have := Nat.pow_le_pow_right (n := 4) (by omega) (show 1 ≤ d + 1 by omega)
  simpa using this
theorem sizes_le3 {l : List X} {b : Nat} (h : ∀ x ∈ l, x.size ≤ b) (hl : l.length ≤ 3) : sizes l ≤ 3 * b := by
 have h1 := sizes_le h
 have h2 := Nat.mul_le_mul_right b hl
 omega
theorem fit_star {d : Nat} {x : X} (h : Fit d x) : Fit (d + 1) (starX x) := ⟨right_star h.rt, starX_ok h.ok, by
 have h1 := starX_size x
 have h2 := h.size
 obtain ⟨h3, h4⟩ := pow4 d
 omega⟩
theorem fit_cat {d : Nat} {l : List X} (hl : l.length ≤ 3) (h : ∀ x ∈ l, Fit d x) : Fit (d + 1) (catX l) := ⟨right_cat fun x hx => (h x hx).rt, catX_ok fun x hx => (h x hx).ok, by
 have h1 := catX_size l
 have h2 := sizes_le3 (fun x hx => (h x hx).size) hl
 obtain ⟨h3, h4⟩ := pow4 d
 omega⟩
theorem fit_either {d : Nat} {l : List X} (hl : l.length ≤ 3) (h : ∀ x ∈ l, Fit d x) : Fit (d + 1) (eitherX l) := ⟨right_either fun x hx => (h x hx).rt, eitherX_ok fun x hx => (h x hx).ok, by
 have h1 := eitherX_size l
 have h2 := sizes_le3 (fun x hx => (h x hx).size) hl
 obtain ⟨h3, h4⟩ := pow4 d
 omega⟩
/-- The result stands in a variable on top. -/
theorem top_get {L : List Int} {G : Heap} {i a : Nat} (hi : i < G.length) (b : Blk) : hget (b :: hset G i (pickB L a)) i = some (pickB L a) := by
 rw [Qck (by simpa using hi), Qcl hi]
theorem top_set {L : List Int} {G : Heap} {i a a' : Nat} (hi : i < G.length) (b : Blk) : hset (b :: hset G i (pickB L a)) i (pickB L a') = b :: hset G i (pickB L a') := by
 rw [Qco (by simpa using hi), Qcp]
abbrev zB : Blk := .var zX
theorem re_small {L : List Int} (hL : ∀ n ∈ L, 0 ≤ n ∧ n ≤ 255) (hl : L.length ≤ 9223372036854775807) {d : Nat} {t1 : V} {G : Heap} {i a : Nat} (hi : i < G.length) (ha : a + 2 ≤ 100000) {k : Int} (hk0 : 0 ≤ k) (hk : k ≤ 4) :
  ∃ (x : X) (a' : Nat), a ≤ a' ∧ a' ≤ a + 2 ∧ Fit d x ∧ law07_picker_re_j1 G.length (.ptr i 0 0) t1 (.ptr G.length 0 0) (.int .i64 k) (zB :: hset G i (pickB L a)) = some (.ret (encX x), hset G i (pickB L a')) := by
 by_cases h4 : k < 4
 ·obtain ⟨r1, p1, p2, p3⟩ := c7_pick hL hl (a := a) (by omega) (n := 3) (by omega) (top_get (L := L) (a := a) hi zB)
  rw [top_set hi] at p3
  obtain ⟨r2, q1, q2, q3⟩ := c7_pick hL hl (a := a + 1) (by omega) (n := 4) (by omega) (top_get (L := L) (a := a + 1) hi zB)
  rw [top_set hi] at q3
  have w1 : IntKind.i64.wrap (97 + r1) = 97 + r1 := wrap_i64 (by omega) (by omega)
  have w2 : IntKind.i64.wrap (97 + r1 + r2 / 3) = 97 + r1 + r2 / 3 := wrap_i64 (by omega) (by omega)
  obtain ⟨s, s1, s2⟩ := fit_letter (d := d) (lo := 97 + r1) (hi := 97 + r1 + r2 / 3) (by omega) (by omega) (by omega)
  have lt := fun G => c7_letter s1 G
  have e2 : encX (.mk 2 s []) = .agg [.int .i64 2, .int .u64 s.a, .int .u64 s.b, .int .u64 s.c, .int .u64 s.d, .vs []] := rfl
  rw [e2] at lt
  refine ⟨_, a + 1 + 1, by omega, by omega, s2, ?_⟩
  rw [law07_picker_re_j1_eq, e2]
  simp (maxDischargeDepth := 9) only [Qah, Qag, Qab, Qbd, Qdx, Qeb, Qef, Qcz, Qan, Qgo, Qgn, Qgs, Qhc, Qdi, Qdt, Qde, Qdd, Qdc, Qhh, Qhf, Qcs, Qcr, Qcj, Qcn, Qhi, Qem, Qgb, Qga, Qbe, Qbx, Qce, Qbt, Qdb, Qda, decide_true, if_true, List.drop_zero, List.drop_succ_cons, List.length_cons, List.length_nil, Nat.zero_add, Option.bind_some, Option.map_some, Bool.and_true, List.append_nil, Nat.reduceAdd, hset_length, oLoad_ptr, oStore_ptr, List.drop_nil, le_s, Nat.le_refl, Nat.zero_le, or_true, and_self, Nat.max_self, List.take_zero, List.take_succ_cons, h4, p3, q3, w1, w2, quo3 q1 q2, lt]
 ·obtain rfl : k = 4 := by omega
  obtain ⟨r1, p1, p2, p3⟩ := c7_pick hL hl (a := a) (by omega) (n := 4) (by omega) (top_get (L := L) (a := a) hi zB)
  rw [top_set hi] at p3
  have b := bXk (r1 / 3)
  refine ⟨.mk (r1 / 3) S4.zero [], a + 1, by omega, by omega, fit_k (by omega), ?_⟩
  rw [law07_picker_re_j1_eq]
  simp (maxDischargeDepth := 9) only [Qah, Qag, Qab, Qbd, Qbc, Qeb, Qef, Qcz, Qan, Qgo, Qgn, Qgs, Qgy, Qdi, Qdo, Qdt, Qde, Qdd, Qdc, Qhh, Qhf, Qcs, Qcr, Qcj, Qcn, Qhi, Qgb, Qga, Qbe, Qbx, Qca, Qbt, Qdb, Qda, decide_true, decide_false, if_true, List.drop_zero, List.drop_succ_cons, List.length_cons, List.length_nil, Nat.zero_add, Option.bind_some, Option.map_some, Bool.and_true, List.append_nil, Nat.reduceAdd, hset_length, oLoad_ptr, oStore_ptr, List.drop_nil, le_s, Nat.le_refl, Nat.zero_le, or_true, and_self, Nat.max_self, List.take_zero, List.take_succ_cons, h4, p3, quo3 p1 p2, b]
  rfl
theorem c7_re {L : List Int} (hL : ∀ n ∈ L, 0 ≤ n ∧ n ≤ 255) (hl : L.length ≤ 9223372036854775807) : ∀ d : Nat, d ≤ 6 → ReAt L d
 | 0, _ => by
  intro G i a hg ha
  have hi := hget_lt hg
  simp only [Nat.zero_add, Nat.pow_one] at ha
  have hg1 : hget (zB :: G) i = some (pickB L a) := by rw [Qck hi]; exact hg
  obtain ⟨r, p1, p2, p3⟩ := c7_pick hL hl (a := a) (by omega) (n := 11) (by omega) hg1
  rw [Qco hi] at p3
  obtain ⟨x, a', h1, h2, h3, h4⟩ := re_small hL hl (d := 0) (t1 := .int .i64 0) (G := G) (i := i) (a := a + 1) hi (by omega) (k := r % 5) (by omega) (by omega)
  refine ⟨x, a', by omega, by simp only [Nat.zero_add, Nat.pow_one]; omega, h3, ?_⟩
  rw [law07_picker_re_E, law07_picker_re_eq]
  have h01 : (0 : Int) < 1 := by omega
  simp only [Qam, Qah, Qag, Qab, Qbd, Qef, Qan, Qgo, Qgn, Qgs, Qgy, Qam, Qfv, decide_true, Bool.and_true, h01, p3, rem5 p1 (show r < 100 by omega), h4]
 | d + 1, hd => by
  have ih := c7_re hL hl d (by omega)
  intro G i a hg ha
  obtain ⟨hp, hp4⟩ := pow4 d
  have hi := hget_lt hg
  have hg1 : hget (zB :: G) i = some (pickB L a) := by rw [Qck hi]; exact hg
  obtain ⟨r, p1, p2, p3⟩ := c7_pick hL hl (a := a) (by omega) (n := 11) (by omega) hg1
  rw [Qco hi] at p3
  have hd1 : ¬ (((d + 1 : Nat) : Int) < 1) := by omega
  have w1 : IntKind.i64.wrap (((d + 1 : Nat) : Int) - 1) = (d : Int) := by rw [wrap_i64 (by omega) (by omega)]; omega
  by_cases h4 : r ≤ 4
  ·obtain ⟨x, a', h1, h2, h3, h5⟩ := re_small hL hl (d := d + 1) (t1 := .int .i64 ((d + 1 : Nat) : Int)) (G := G) (i := i) (a := a + 1) hi (by omega) (k := r) (by omega) h4
   refine ⟨x, a', by omega, by omega, h3, ?_⟩
   rw [law07_picker_re_E, law07_picker_re_eq]
   simp (maxDischargeDepth := 9) only [Qah, Qag, Qab, Qbc, Qef, Qan, Qgo, Qgn, Qgs, Qgy, Qfv, decide_false, Bool.and_true, p3, hd1, h5]
  ·have n4 : ¬ r < 4 := by omega
   have n5 : ¬ r = 4 := by omega
   by_cases h7 : r < 7
   ·obtain ⟨x, a', h1, h2, h3, h5⟩ := ih (zB :: hset G i (pickB L (a + 1))) i (a + 1) (top_get hi zB) (by omega)
    rw [top_set hi] at h5
    have st := fun G => r7_Star x G
    have hf := fit_star h3
    refine ⟨starX x, a', by omega, by omega, hf, ?_⟩
    have er := fun H => Qbl G.length (starX x) H
    obtain ⟨k, s, ks, e⟩ : ∃ k s ks, starX x = .mk k s ks := by cases starX x with | mk k s ks => exact ⟨k, s, ks, rfl⟩
    rw [e, encX_mk] at st er ⊢
    rw [law07_picker_re_E, law07_picker_re_eq]
    simp (maxDischargeDepth := 9) only [Qah, Qag, Qab, Qbc, Qef, Qan, Qgo, Qgn, Qgs, Qgy, Qfv, decide_false, Bool.and_true, p3, hd1]
    rw [law07_picker_re_j1_eq]
    simp (maxDischargeDepth := 9) only [Qah, Qag, Qab, Qbd, Qbc, Qel, Qeb, Qef, Qcz, Qan, Qgo, Qgn, Qgs, Qhc, Qdi, Qdt, Qde, Qdd, Qdc, Qhh, Qhf, Qcs, Qcr, Qcj, Qcn, Qhi, Qem, decide_true, decide_false, if_true, List.drop_zero, List.drop_succ_cons, List.length_cons, List.length_nil, Nat.zero_add, Bool.and_true, List.append_nil, Nat.reduceAdd, hset_length, oLoad_ptr, oStore_ptr, List.drop_nil, le_s, Nat.le_refl, Nat.zero_le, or_true, and_self, Nat.max_self, List.take_zero, List.take_succ_cons, n4, n5, h7, w1, h5, st, er]
    done
   ·by_cases h9 : r < 9
    ·obtain ⟨r1, u1, u2, u3⟩ := c7_pick hL hl (a := a + 1) (by omega) (n := 3) (by omega) (top_get (L := L) (a := a + 1) hi zB)
     rw [top_set hi] at u3
     obtain ⟨n, hn⟩ : ∃ n : Nat, 1 + r1 = n := ⟨(1 + r1).toNat, by omega⟩
     have hn3 : n ≤ 3 := by omega
     have hm := Nat.mul_le_mul_right (4 ^ (d + 1)) hn3
     obtain ⟨l, a', h1, h2, h3, h5, h6⟩ := c7_some ih (by omega) (n := n) (by omega) (top_get (L := L) (a := a + 1 + 1) hi zB) (by omega)
     rw [top_set hi] at h6
     have w2 : IntKind.i64.wrap (1 + r1) = (n : Int) := by rw [wrap_i64 (by omega) (by omega)]; exact hn
     have hsz : sizes l ≤ 1000000 := by
      have k1 := sizes_le3 (fun x hx => (h5 x hx).size) (by omega)
      omega
     have ca := fun G => r7_Cat (H := G) (Sl.vs l) hsz
     refine ⟨catX l, a', by omega, by omega, fit_cat (by omega) h5, ?_⟩
     have er := fun H => Qbl G.length (catX l) H
     obtain ⟨k, s, ks, e⟩ : ∃ k s ks, catX l = .mk k s ks := by cases catX l with | mk k s ks => exact ⟨k, s, ks, rfl⟩
     rw [e, encX_mk] at ca er ⊢
     rw [law07_picker_re_E, law07_picker_re_eq]
     simp (maxDischargeDepth := 9) only [Qah, Qag, Qab, Qbc, Qef, Qan, Qgo, Qgn, Qgs, Qgy, Qfv, decide_false, Bool.and_true, p3, hd1]
     rw [law07_picker_re_j1_eq]
     simp (maxDischargeDepth := 9) only [Qah, Qag, Qab, Qbd, Qbc, Qdx, Qel, Qeb, Qef, Qcz, Qan, Qgo, Qgn, Qgs, Qhc, Qdi, Qdt, Qde, Qdd, Qdc, Qhh, Qhf, Qcs, Qcr, Qcj, Qcn, Qhi, Qem, decide_true, decide_false, if_true, List.drop_zero, List.drop_succ_cons, List.length_cons, List.length_nil, Nat.zero_add, Bool.and_true, List.append_nil, Nat.reduceAdd, hset_length, oLoad_ptr, oStore_ptr, List.drop_nil, le_s, Nat.le_refl, Nat.zero_le, or_true, and_self, Nat.max_self, List.take_zero, List.take_succ_cons, n4, n5, h7, h9, w1, w2, u3, h6, ca, er]
     done
    ·obtain ⟨r1, u1, u2, u3⟩ := c7_pick hL hl (a := a + 1) (by omega) (n := 3) (by omega) (top_get (L := L) (a := a + 1) hi zB)
     rw [top_set hi] at u3
     obtain ⟨n, hn⟩ : ∃ n : Nat, 1 + r1 = n := ⟨(1 + r1).toNat, by omega⟩
     have hn3 : n ≤ 3 := by omega
     have hm := Nat.mul_le_mul_right (4 ^ (d + 1)) hn3
     obtain ⟨l, a', h1, h2, h3, h5, h6⟩ := c7_some ih (by omega) (n := n) (by omega) (top_get (L := L) (a := a + 1 + 1) hi zB) (by omega)
     rw [top_set hi] at h6
     have w2 : IntKind.i64.wrap (1 + r1) = (n : Int) := by rw [wrap_i64 (by omega) (by omega)]; exact hn
     have hsz : sizes l ≤ 1000000 := by
      have k1 := sizes_le3 (fun x hx => (h5 x hx).size) (by omega)
      omega
     have ca := fun G => r7_Either (H := G) (Sl.vs l) hsz fun x hx => (h5 x hx).ok
     refine ⟨eitherX l, a', by omega, by omega, fit_either (by omega) h5, ?_⟩
     have er := fun H => Qbl G.length (eitherX l) H
     obtain ⟨k, s, ks, e⟩ : ∃ k s ks, eitherX l = .mk k s ks := by cases eitherX l with | mk k s ks => exact ⟨k, s, ks, rfl⟩
     rw [e, encX_mk] at ca er ⊢
     rw [law07_picker_re_E, law07_picker_re_eq]
     simp (maxDischargeDepth := 9) only [Qah, Qag, Qab, Qbc, Qef, Qan, Qgo, Qgn, Qgs, Qgy, Qfv, decide_false, Bool.and_true, p3, hd1]
     rw [law07_picker_re_j1_eq]
     simp (maxDischargeDepth := 9) only [Qah, Qag, Qab, Qbc, Qdx, Qel, Qeb, Qef, Qcz, Qan, Qgo, Qgn, Qgs, Qhc, Qdi, Qdt, Qde, Qdd, Qdc, Qhh, Qhf, Qcs, Qcr, Qcj, Qcn, Qhi, Qem, decide_false, if_true, List.drop_zero, List.drop_succ_cons, List.length_cons, List.length_nil, Nat.zero_add, Bool.and_true, List.append_nil, Nat.reduceAdd, hset_length, oLoad_ptr, oStore_ptr, List.drop_nil, le_s, Nat.le_refl, Nat.zero_le, or_true, and_self, Nat.max_self, List.take_zero, List.take_succ_cons, n4, n5, h7, h9, w1, w2, u3, h6, ca, er]
     done
/-- A few, by numbers. -/
theorem c7_Few {L : List Int} (hL : ∀ n ∈ L, 0 ≤ n ∧ n ≤ 255) (hl : L.length ≤ 9223372036854775807) (H : Heap) : ∃ l : List X, l.length ≤ 4 ∧ (∀ x ∈ l, Fit 3 x) ∧ E n_law07_Few [.vs (L.map (V.int .u8))] H = some (.ret (.vs (encXs l)), H) := by
 have hg : hget (pickB L 0 :: H) H.length = some (pickB L 0) := hget_new _ _
 obtain ⟨r, p1, p2, p3⟩ := c7_pick hL hl (a := 0) (by omega) (n := 5) (by omega) hg
 obtain ⟨n, hn⟩ : ∃ n : Nat, r = n := ⟨r.toNat, by omega⟩
 subst hn
 have hs : hset (pickB L 0 :: H) H.length (pickB L (0 + 1)) = pickB L 1 :: H := by simp [hset]
 rw [hs] at p3
 obtain ⟨l, a', h1, h2, h3, h5, h6⟩ := c7_some (c7_re hL hl 3 (by omega)) (by omega) (n := n) (by omega) (hget_new (pickB L 1) H) (by
  have := Nat.mul_le_mul_right (4 ^ (3 + 1)) (show n ≤ 5 by omega)
  omega)
 rw [show hset (pickB L 1 :: H) H.length (pickB L a') = pickB L a' :: H by simp [hset]] at h6
 refine ⟨l, by omega, h5, ?_⟩
 have hb : oBuild [.nils, .int .i64 0] [(0, 1), (1, 1)] [(0, .vs (L.map (V.int .u8)))] = some (.agg [.vs (L.map (V.int .u8)), .int .i64 0]) := by simp [splice]
 rw [law07_Few_E, law07_Few_eq]
 simp only [pickB, Qam] at p3 h6
 simp (maxDischargeDepth := 9) only [Qah, Qag, Qab, Qcx, Qan, Qgo, Qgn, Qgs, Qhc, Qcr, Qfv, Qgl, Bool.and_true, Nat.le_refl, hb, p3, h6]
 done
end Go.Proofs.YtjnkigaiogjfcaaDoor
end

