/- Le: a part of the proof that each law of this seat answers true at every input. No condition. -/
import Derived.Test.YtjnnegacjmcdbaaL
set_option linter.unusedVariables false
set_option linter.unusedSimpArgs false
set_option maxRecDepth 20000
section
/- Laws over few numbers: deep brackets, repeats, numbers. -/
namespace Go.Proofs.Ytjnnegacjmcdbaa
open Go Go.Ev
set_option linter.unusedVariables false
set_option linter.unusedSimpArgs false

theorem lit10 (a b c d e f g h i j : List UInt8) : oLit 1 10 (.str []) [(0, .str a), (1, .str b), (2, .str c), (3, .str d), (4, .str e), (5, .str f), (6, .str g), (7, .str h), (8, .str i), (9, .str j)] = some (.vs ([a, b, c, d, e, f, g, h, i, j].map V.str)) := by rw [oLit_eq]; rfl
theorem lit7 (a b c d e f g : List UInt8) : oLit 1 7 (.str []) [(0, .str a), (1, .str b), (2, .str c), (3, .str d), (4, .str e), (5, .str f), (6, .str g)] = some (.vs ([a, b, c, d, e, f, g].map V.str)) := by rw [oLit_eq]; rfl
theorem lit9 (a b c d e f g h i : List UInt8) : oLit 1 9 (.str []) [(0, .str a), (1, .str b), (2, .str c), (3, .str d), (4, .str e), (5, .str f), (6, .str g), (7, .str h), (8, .str i)] = some (.vs ([a, b, c, d, e, f, g, h, i].map V.str)) := by rw [oLit_eq]; rfl
theorem lit6 (a b c d e f : List UInt8) : oLit 1 6 (.str []) [(0, .str a), (1, .str b), (2, .str c), (3, .str d), (4, .str e), (5, .str f)] = some (.vs ([a, b, c, d, e, f].map V.str)) := by rw [oLit_eq]; rfl

theorem law_ReaderDeep {x y : Int} (hx : 0 ≤ x ∧ x ≤ 255) (hy : 0 ≤ y ∧ y ≤ 255) (H : Heap) : E n_law03_ReaderDeep [.int .u8 x, .int .u8 y] H = some (.ret (.bool true), H) := by
  rw [law03_ReaderDeep_E, law03_ReaderDeep_eq]
  refine to_k (by omega) (by omega) ?_
  refine rem_k (by omega) (by omega) ?_
  refine add_k (by omega) (by omega) ?_
  repeat first
    | (refine many_k (by simp) (by omega) (by omega) ?_; intro t ht)
    | (refine cat_k (by first | omega | (simp only [List.length_cons, List.length_nil]; omega)) ?_; intro t ht; try simp only [List.length_cons, List.length_nil] at ht)
    | refine rem_k (by omega) (by omega) ?_
  rw [lit10, bnd_some]
  refine to_k (by omega) (by omega) ?_
  refine rem_k (by omega) (by omega) ?_
  refine pickStr_k (m := 10000) (by omega) (by simp only [List.length_cons, List.length_nil]; omega) ?_ ?_
  · intro t ht
    simp only [List.mem_cons, List.not_mem_nil, or_false] at ht
    rcases ht with rfl | rfl | rfl | rfl | rfl | rfl | rfl | rfl | rfl | rfl <;> omega
  · intro t ht
    have b1 : ∀ e, oBin .add e (.str [114, 32, 61, 32]) (.str t) = some (.str ([114, 32, 61, 32] ++ t)) := fun e => oBin_cat _ _ _ (by simp; omega)
    have b2 : ∀ e, oBin .add e (.str ([114, 32, 61, 32] ++ t)) (.str [10]) = some (.str ([114, 32, 61, 32] ++ t ++ [10])) := fun e => oBin_cat _ _ _ (by simp; omega)
    simp only [List.cons_append, List.nil_append] at b1 b2
    simp (maxDischargeDepth := 9) only [bnd_some, bcall_ret, gua_yes, oMove_v, oPick_t, htrunc_self, rt_bool, c_awake, c_same, b1, b2]

theorem oText_one {x : Int} (h0 : 0 ≤ x) (h1 : x ≤ 255) (H : Heap) : ∃ t : List UInt8, t.length = 1 ∧ oText H (.vs [.int .u8 x]) = some (.str t) := by
  refine ⟨[UInt8.ofNat x.toNat], rfl, ?_⟩
  have e : [V.int .u8 x] = bytesV [UInt8.ofNat x.toNat] := by
    have hx : ((UInt8.ofNat x.toNat).toNat : Int) = x := by simp [UInt8.toNat_ofNat']; omega
    rw [bytesV_map]
    simp only [List.map_cons, List.map_nil, hx]
  rw [oText_eq]
  show (slCells 1 H (.vs [.int .u8 x])).bind (fun cs => (bytesOf cs).map V.str) = _
  have h2 : slCells 1 H (.vs [.int .u8 x]) = some [.int .u8 x] := rfl
  rw [h2, e]
  simp
theorem c_digits : ∀ (n : Nat), n ≤ 999 → ∀ H : Heap, ∃ t : List UInt8, t.length ≤ 4 ∧ E n_law03_digits [.int .i64 n] H = some (.ret (.str t), H) := by
  have one : ∀ (n : Nat), n ≤ 9 → ∀ H : Heap, ∃ t : List UInt8, t.length ≤ 1 ∧ E n_law03_digits [.int .i64 n] H = some (.ret (.str t), H) := by
    intro n hn H
    obtain ⟨t, h1, h2⟩ := oText_one (x := 48 + (n : Int) % 10) (by omega) (by omega) H
    refine ⟨t, by omega, ?_⟩
    rw [law03_digits_E, law03_digits_eq]
    refine rem_k (by omega) (by omega) (add_k (by omega) (by omega) (to8_k (by omega) (by omega) ?_))
    have h' : (n : Int) < 10 := by omega
    simp (maxDischargeDepth := 9) only [bnd_some, cnd_true, oBin_lss, htrunc_self, rt_str, oLit_int, decide_true, h2, h']
  have step : ∀ (m : Nat), m ≤ 3 → (∀ (n : Nat), n ≤ m → True) → ∀ (b : Nat) (k : Nat), (∀ (n : Nat), n ≤ b → ∀ H : Heap, ∃ t : List UInt8, t.length ≤ k ∧ E n_law03_digits [.int .i64 n] H = some (.ret (.str t), H)) → b ≤ 1000 → k ≤ 10 → 
      ∀ (n : Nat), 10 ≤ n → n ≤ 10 * b + 9 → ∀ H : Heap, ∃ t : List UInt8, t.length ≤ k + 1 ∧ E n_law03_digits [.int .i64 n] H = some (.ret (.str t), H) := by
    intro m _ _ b k hb hb1 hk n hn0 hn H
    obtain ⟨t, h1, h2⟩ := oText_one (x := 48 + (n : Int) % 10) (by omega) (by omega) H
    obtain ⟨t', h3, h4⟩ := hb (n / 10) (by omega) H
    refine ⟨t' ++ t, by simp; omega, ?_⟩
    rw [law03_digits_E, law03_digits_eq]
    refine rem_k (by omega) (by omega) (add_k (by omega) (by omega) (to8_k (by omega) (by omega) ?_))
    have h' : ¬ (n : Int) < 10 := by omega
    have hq : ((n / 10 : Nat) : Int) = (n : Int) / 10 := by omega
    rw [hq] at h4
    simp (maxDischargeDepth := 9) only [bnd_some, cnd_false, oBin_lss, htrunc_self, rt_str, oLit_int, decide_false, h2, h']
    refine quo_k (by omega) (by omega) (by omega) ?_
    simp (maxDischargeDepth := 9) only [bnd_some, bcall_ret, htrunc_self, rt_str, h4, oBin_cat _ _ _ (show t'.length + t.length ≤ 9223372036854775807 by omega)]
  intro n hn H
  have two := step 0 (by omega) (fun _ _ => trivial) 9 1 one (by omega) (by omega)
  have two' : ∀ (n : Nat), n ≤ 99 → ∀ H : Heap, ∃ t : List UInt8, t.length ≤ 2 ∧ E n_law03_digits [.int .i64 n] H = some (.ret (.str t), H) := by
    intro n hn H
    by_cases h : n ≤ 9
    · obtain ⟨t, h1, h2⟩ := one n h H
      exact ⟨t, by omega, h2⟩
    · exact two n (by omega) (by omega) H
  by_cases h : n ≤ 9
  · obtain ⟨t, h1, h2⟩ := one n h H
    exact ⟨t, by omega, h2⟩
  · obtain ⟨t, h1, h2⟩ := step 0 (by omega) (fun _ _ => trivial) 99 2 two' (by omega) (by omega) n (by omega) (by omega) H
    exact ⟨t, by omega, h2⟩
theorem digits_k {k : Int} {H : Heap} {f g : V → Heap → Option (Out × Heap)} {R : Option (Out × Heap)} (h0 : 0 ≤ k) (hk : k ≤ 999) (h : ∀ t : List UInt8, t.length ≤ 4 → f (.str t) H = R) : bcall (E n_law03_digits [.int .i64 k] H) f g = R := by
  obtain ⟨t, h1, h2⟩ := c_digits k.toNat (by omega) H
  rw [show ((k.toNat : Nat) : Int) = k by omega] at h2
  rw [h2, bcall_ret]
  exact h t h1

theorem law_ReaderRepeats {x y z : Int} (hx : 0 ≤ x ∧ x ≤ 65535) (hy : 0 ≤ y ∧ y ≤ 65535) (hz : 0 ≤ z ∧ z ≤ 255) (H : Heap) : E n_law03_ReaderRepeats [.int .u16 x, .int .u16 y, .int .u8 z] H = some (.ret (.bool true), H) := by
  rw [law03_ReaderRepeats_E, law03_ReaderRepeats_eq]
  refine to_k (by omega) (by omega) ?_
  refine rem_k (by omega) (by omega) ?_
  refine digits_k (by omega) (by omega) ?_
  intro t1 ht1
  refine to_k (by omega) (by omega) ?_
  refine rem_k (by omega) (by omega) ?_
  refine digits_k (by omega) (by omega) ?_
  intro t2 ht2
  repeat (refine cat_k (by first | omega | (simp only [List.length_cons, List.length_nil]; omega)) ?_; intro t ht; try simp only [List.length_cons, List.length_nil] at ht)
  rw [lit7, bnd_some]
  refine to_k (by omega) (by omega) ?_
  refine rem_k (by omega) (by omega) ?_
  refine pickStr_k (m := 10000) (by omega) (by simp only [List.length_cons, List.length_nil]; omega) ?_ ?_
  · intro t ht
    simp only [List.mem_cons, List.not_mem_nil, or_false] at ht
    rcases ht with rfl | rfl | rfl | rfl | rfl | rfl | rfl <;> first | omega | (simp only [List.length_cons, List.length_nil]; omega)
  · intro t ht
    refine cat_k (by simp only [List.length_cons, List.length_nil]; omega) ?_
    intro t' ht'
    simp only [List.length_cons, List.length_nil] at ht'
    have b1 : ∀ e, oBin .add e (.str t') (.str [120]) = some (.str (t' ++ [120])) := fun e => oBin_cat _ _ _ (by simp only [List.length_cons, List.length_nil]; omega)
    have b2 : ∀ e, oBin .add e (.str t') (.str [91, 120, 93]) = some (.str (t' ++ [91, 120, 93])) := fun e => oBin_cat _ _ _ (by simp only [List.length_cons, List.length_nil]; omega)
    have b3 : ∀ e, oBin .add e (.str t') (.str [40, 120, 32, 47, 32, 121, 41, 32, 122, 10]) = some (.str (t' ++ [40, 120, 32, 47, 32, 121, 41, 32, 122, 10])) := fun e => oBin_cat _ _ _ (by simp only [List.length_cons, List.length_nil]; omega)
    simp (maxDischargeDepth := 9) only [bnd_some, bcall_ret, gua_yes, oMove_v, oPick_t, htrunc_self, rt_bool, c_awake, c_same, b1, b2, b3]
end Go.Proofs.Ytjnnegacjmcdbaa
end

