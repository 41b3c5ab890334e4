/- Enc: a part of the proof that each law of this seat answers true at every input. No condition. -/
import Derived.Test.YtjnnegacjmcdbaaEvH
import Derived.Test.YtjnnegacjmcdbaaRd
set_option linter.unusedVariables false
set_option linter.unusedSimpArgs false
set_option maxRecDepth 20000
section
/- Expressions and rules as values. -/
namespace Go.Ev
set_option linter.unusedVariables false

def encI (l : List Int) : V := .vs (l.map (V.int .i64))
@[simp] theorem encI_cells (l : List Int) : (encI l).cells = [encI l] := rfl
@[simp] theorem encI_scal (l : List Int) : (encI l).scal = true := rfl
@[simp] theorem encI_mr (l : List Int) : (encI l).maxRef = 0 := rfl
mutual
def encE : Rd.Expr → V
  | .mk k t n lo hi ks => .agg [.int .i64 k, .str t, encI n, .int .i64 lo, .int .i64 hi, .vs (encEs ks)]
def encEs : List Rd.Expr → List V
  | [] => []
  | e :: l => encE e :: encEs l
end
def encL (x : Rd.Line) : V := .agg (.str x.name :: .bool x.more :: (encE x.expr).cells)
theorem encEs_map (l : List Rd.Expr) : encEs l = l.map encE := by
  induction l with
  | nil => rfl
  | cons e l ih => rw [encEs, ih]; rfl
@[simp] theorem encE_cells (e : Rd.Expr) : (encE e).cells.length = 6 := by cases e; rfl
@[simp] theorem encE_scal (e : Rd.Expr) : scalL (encE e).cells = true := by cases e; rfl
@[simp] theorem encE_mr (e : Rd.Expr) : (encE e).maxRef = 0 := by cases e; rfl
@[simp] theorem encE_take (e : Rd.Expr) : V.agg (List.take 6 (encE e).cells) = encE e := by cases e; rfl
@[simp] theorem encE_agg (e : Rd.Expr) : V.agg (encE e).cells = encE e := by cases e; rfl
@[simp] theorem encE_mrc (e : Rd.Expr) : maxRefL (encE e).cells = 0 := by cases e; rfl
@[simp] theorem encE_take6 (e : Rd.Expr) : List.take 6 (encE e).cells = (encE e).cells := List.take_of_length_le (by simp)
@[simp] theorem encE_drop6 (e : Rd.Expr) : List.drop 6 (encE e).cells = [] := List.drop_of_length_le (by simp)
@[simp] theorem encE_mapO (H : Heap) (base n : Nat) (e : Rd.Expr) : mapO (frz H base (n + 1)) (encE e).cells = some (encE e).cells := by cases e; rfl
theorem encE_frz (H : Heap) (base n : Nat) (e : Rd.Expr) : frz H base (n + 1 + 1) (encE e) = some (encE e) := by cases e; rfl
@[simp] theorem encE_rt (base : Nat) (e : Rd.Expr) (H : Heap) : rt false base (encE e) H = some (.ret (encE e), htrunc H base) := rt_frz (encE_frz H base 10 e) (by simp)
theorem encI_clean (l : List Int) : (encI l).clean = true := by
  show cleanL _ = true
  induction l with
  | nil => rfl
  | cons a l ih => exact ih
mutual
theorem encE_clean : ∀ e : Rd.Expr, (encE e).clean = true
  | .mk k t n lo hi ks => by
    simp only [encE, V.clean, cleanL, encI_clean, encEs_clean ks, Bool.and_self]
theorem encEs_clean : ∀ l : List Rd.Expr, cleanL (encEs l) = true
  | [] => rfl
  | e :: l => by rw [encEs, cleanL, encE_clean e, encEs_clean l]; rfl
end
theorem encE_nrm (e : Rd.Expr) : (encE e).nrm = encE e := by cases e; rfl
@[simp] theorem oLit_encE (z : V) (e : Rd.Expr) : oLit 6 1 z [(0, encE e)] = some (.vs [encE e]) := oLit_1 (by simp) (by simp) (encE_nrm e) (encE_clean e)
/-- The cells of expressions in a row. -/
def cellsE (l : List Rd.Expr) : List V := flat (encEs l)
theorem cellsE_append (l m : List Rd.Expr) : cellsE (l ++ m) = cellsE l ++ cellsE m := by
  induction l with
  | nil => rfl
  | cons e l ih => simp only [List.cons_append, cellsE, encEs, flat] at ih ⊢; rw [ih]; simp
theorem cellsE_one (e : Rd.Expr) : cellsE [e] = (encE e).cells := by simp [cellsE, encEs, flat]
@[simp] theorem cellsE_length (l : List Rd.Expr) : (cellsE l).length = l.length * 6 := by
  induction l with
  | nil => rfl
  | cons e l ih => simp only [cellsE, encEs, flat, List.length_append, encE_cells, List.length_cons] at ih ⊢; omega
theorem cellsE_scal (l : List Rd.Expr) : scalL (cellsE l) = true := by
  induction l with
  | nil => rfl
  | cons e l ih => cases e; simp only [cellsE, encEs, flat] at ih ⊢; simpa [encE] using ih
theorem cellsE_clean (l : List Rd.Expr) : cleanL (cellsE l) = true := by
  induction l with
  | nil => rfl
  | cons e l ih =>
    have := encE_clean e
    cases e; simp only [cellsE, encEs, flat] at ih ⊢
    simp only [encE, V.clean] at this
    simp only [encE, cells_agg, List.cons_append, List.nil_append, cleanL, Bool.and_eq_true] at this ⊢
    simp [this, ih]
theorem cellsE_plain (l : List Rd.Expr) : ∀ c ∈ cellsE l, c.plain = true := by
  induction l with
  | nil => intro c hc; simp [cellsE, encEs, flat] at hc
  | cons e l ih =>
    intro c hc
    cases e with
    | mk k t n lo hi ks =>
      simp only [cellsE, encEs, flat, encE, cells_agg, List.mem_append, List.mem_cons, List.not_mem_nil, or_false] at hc ih
      rcases hc with (rfl | rfl | rfl | rfl | rfl | rfl) | hc
      · rfl
      · rfl
      · rfl
      · rfl
      · rfl
      · rfl
      · exact ih c hc
theorem frz_encEs {H : Heap} {base n i ver : Nat} {l : List Rd.Expr} {m : Nat} (hg : hget H i = some (.row ver 6 true (cellsE l))) (hb : base ≤ i) (hm : m = l.length) : frz H base (n + 1 + 1) (.rs i ver 6 0 m) = some (.vs (encEs l)) := by
  subst hm
  rw [frz_row hg hb (by simp) (by omega) (fun c hc => frz_plain (cellsE_plain l c hc)) (cellsE_clean l) (cellsE_scal l) (.inl rfl)]
  have := chunk_flat (sz := 6) (l := encEs l) (fun v hv => by
    rw [encEs_map] at hv
    obtain ⟨e, _, rfl⟩ := List.mem_map.1 hv
    exact ⟨(encE e).cells, (encE_agg e).symm, encE_cells e⟩)
  rw [show (encEs l).length = l.length by rw [encEs_map]; simp] at this
  rw [cellsE, this]
theorem append_encE {base i ver : Nat} {H : Heap} {l : List Rd.Expr} {e : Rd.Expr} {n : Nat} (hg : hget H i = some (.row ver 6 true (cellsE l))) (hn : n = l.length) (hr : l.length < 1000000) :
    oAppend base 6 88 true (.rs i ver 6 0 n) (.vs [encE e]) H = some (.rs i (ver + 1) 6 0 (n + 1), hset H i (.row (ver + 1) 6 true (cellsE (l ++ [e])))) := by
  subst hn
  rw [oAppend_row1 hg (by simp) (encE_cells e) (encE_scal e) (by omega) (.inr (by simp)) (by simp [roomOk]; omega)]
  rw [cellsE_append, cellsE_one]
theorem row_encE {z : List V} {e : Rd.Expr} {H : Heap} (hz : z.length = 6) : oRow 1 6 true z H [(0, encE e)] = some (.rs H.length 0 6 0 1, .row 0 6 true (cellsE [e]) :: H) := by
  rw [oRow_1 hz (encE_cells e) (encE_scal e) (by omega), cellsE_one]
theorem encL_ok : EncOK encL 8 := ⟨by omega, fun x => by
  obtain ⟨nm, more, e⟩ := x
  have := encE_clean e
  cases e with
  | mk k t n lo hi ks =>
    refine ⟨_, rfl, rfl, rfl, ?_, ?_, rfl⟩
    · simp only [encE, V.clean, cleanL] at this ⊢
      simpa [encE, cleanL, V.clean] using this
    · intro c hc
      simp only [encE, cells_agg, List.mem_cons, List.not_mem_nil, or_false] at hc
      rcases hc with rfl | rfl | rfl | rfl | rfl | rfl | rfl | rfl <;> rfl⟩
end Go.Ev
end

section
/- A list under way, as a slice: nil, or a row above a place in the heap. -/
namespace Go.Ev
set_option linter.unusedVariables false

def RowsAt {α : Type} (f : α → V) (sz : Nat) (b : Nat) (G : Heap) (v : V) (l : List α) : Prop :=
  (l = [] ∧ v = .nils) ∨ (l ≠ [] ∧ ∃ i ver, b ≤ i ∧ v = .rs i ver sz 0 l.length ∧ hget G i = some (.row ver sz true (cellsF f l)))
theorem htrunc_set {H : Heap} {b i : Nat} (x : Blk) (h : b ≤ i) (hi : i < H.length) : htrunc (hset H i x) b = htrunc H b := by
  unfold htrunc
  rw [hset_length]
  induction H with
  | nil => rfl
  | cons y H ih =>
    by_cases he : i = H.length
    · subst he
      rw [hset_top]
      obtain ⟨k, hk⟩ : ∃ k, (y :: H).length - b = k + 1 := ⟨H.length - b, by simp; omega⟩
      rw [hk]; rfl
    · rw [hset_below he]
      simp only [List.length_cons] at hi
      have e1 : (y :: H).length - b = (H.length - b) + 1 := by simp; omega
      rw [e1, List.drop_succ_cons, List.drop_succ_cons]
      exact ih (by omega)
section
variable {α : Type} {f : α → V} {sz : Nat}
theorem RowsAt.set {b i : Nat} {G : Heap} {v : V} {l : List α} (h : RowsAt f sz b G v l) (x : Blk) (hi : i < b) : RowsAt f sz b (hset G i x) v l := by
  rcases h with h | ⟨h0, j, ver, h1, h2, h3⟩
  · exact .inl h
  · exact .inr ⟨h0, j, ver, h1, h2, by rw [hget_hset_ne x (by omega)]; exact h3⟩
theorem RowsAt.len {b : Nat} {G : Heap} {v : V} {l : List α} (h : RowsAt f sz b G v l) : oLenSl v = some (.int .i64 l.length) := by
  rcases h with ⟨h1, h2⟩ | ⟨h0, j, ver, h1, h2, h3⟩
  · subst h1; subst h2; simp
  · subst h2; simp
theorem RowsAt.app (hf : EncOK f sz) {b base by_ : Nat} {G : Heap} {v : V} {l : List α} {a : α} (h : RowsAt f sz b G v l) (hb : b ≤ G.length) (hr : roomOk (l.length + 1) by_ = true) :
    ∃ v' G', oAppend base sz by_ true v (.vs [f a]) G = some (v', G') ∧ RowsAt f sz b G' v' (l ++ [a]) ∧ (∀ i, i < b → hget G' i = hget G i) ∧ (∀ n, n ≤ b → htrunc G' n = htrunc G n) ∧ G.length ≤ G'.length := by
  rcases h with ⟨h1, h2⟩ | ⟨h0, j, ver, h1, h2, h3⟩
  · subst h1; subst h2
    refine ⟨_, _, hf.append_nil hr, .inr ⟨by simp, G.length, 0, hb, rfl, by simp⟩, ?_, ?_, by simp⟩
    · intro i hi; exact hget_old _ (by omega)
    · intro n hn; exact htrunc_cons (by omega)
  · subst h2
    have hj := hget_lt h3
    refine ⟨_, _, hf.append h3 rfl hr, .inr ⟨by simp, j, ver + 1, h1, by simp, hget_hset_eq _ hj⟩, ?_, ?_, by simp⟩
    · intro i hi; exact hget_hset_ne _ (by omega)
    · intro n hn; exact htrunc_set _ (by omega) hj
theorem RowsAt.frz (hf : EncOK f sz) {b base n : Nat} {G : Heap} {v : V} {l : List α} (h : RowsAt f sz b G v l) (hb : base ≤ b) : Ev.frz G base (n + 1 + 1) v = some (.vs (l.map f)) := by
  rcases h with ⟨h1, h2⟩ | ⟨h0, j, ver, h1, h2, h3⟩
  · subst h1; subst h2; rfl
  · subst h2; exact hf.frz_row h3 (by omega) rfl
theorem allLen_map (hf : EncOK f sz) (m : List α) : allLen sz (m.map f) = true := by
  induction m with
  | nil => rfl
  | cons a m ih => simp [allLen, hf.cells, ih]
theorem RowsAt.appAll (hf : EncOK f sz) {b base by_ : Nat} {G : Heap} {v : V} {l : List α} (m : List α) (h : RowsAt f sz b G v l) (hb : b ≤ G.length) (hr : roomOk (l.length + m.length) by_ = true) :
    ∃ v' G', oAppend base sz by_ true v (.vs (m.map f)) G = some (v', G') ∧ RowsAt f sz b G' v' (l ++ m) ∧ (∀ n, n ≤ b → htrunc G' n = htrunc G n) ∧ G.length ≤ G'.length := by
  have hpos := hf.pos
  have key : ∀ v G, oAppend base sz by_ true v (.vs (m.map f)) G = appendV base G sz by_ true v (cellsF f m) m.length := by
    intro v G
    rw [oAppend_eq]
    simp only [rAppend, slLen, slCells, allLen_map hf m, if_true, Option.bind_some, List.length_map]
    rfl
  have c1 : scalL (cellsF f m) = true ∧ (cellsF f m).length = m.length * sz ∧ 0 < sz := ⟨hf.cellsF_scal m, hf.cellsF_length m, hpos⟩
  have hmr : maxRefL (cellsF f m) = 0 := clean_mrL (hf.cellsF_clean m) (hf.cellsF_plain m)
  rw [key]
  unfold appendV
  rw [if_pos c1]
  rcases h with ⟨h1, h2⟩ | ⟨h0, j, ver, h1, h2, h3⟩
  · subst h1; subst h2
    by_cases hm : m = []
    · subst hm
      exact ⟨.nils, G, by simp, .inl ⟨rfl, rfl⟩, fun _ _ => rfl, Nat.le_refl _⟩
    · have hn : m.length ≠ 0 := by simpa using hm
      have hr' : roomOk m.length by_ = true := by simpa using hr
      refine ⟨.rs G.length 0 sz 0 m.length, .row 0 sz true (cellsF f m) :: G, by simp [hn, hr'], .inr ⟨by simpa using hm, G.length, 0, hb, by simp, by simp⟩, ?_, by simp⟩
      intro n hn; exact htrunc_cons (by omega)
  · subst h2
    have hj := hget_lt h3
    have hfit : fits base j (maxRefL (cellsF f m)) = true := by simp [fits, hmr]
    have hlen := hf.cellsF_length l
    have hc : True ∧ True ∧ True ∧ True ∧ fits base j (maxRefL (cellsF f m)) = true ∧ roomOk (0 + l.length + m.length) by_ = true ∧ (0 + l.length) * sz ≤ (cellsF f l).length   := ⟨trivial, trivial, trivial, trivial, hfit, by simpa using hr, by simp [hlen]⟩
    simp only [h3]
    rw [if_pos hc]
    by_cases hm : m = []
    · subst hm
      refine ⟨.rs j ver sz 0 l.length, G, ?_, .inr ⟨by simpa using h0, j, ver, h1, by simp, by simpa using h3⟩, fun _ _ => rfl, Nat.le_refl _⟩
      rw [if_pos (by simp [hlen])]
      have : splice (cellsF f l) ((0 + l.length) * sz) (cellsF f []) = cellsF f l := by simp [splice, cellsF, flat]
      rw [this, hset_self h3]; rfl
    · have hn : 0 < m.length := List.length_pos_iff.2 hm
      refine ⟨.rs j (ver + 1) sz 0 (l.length + m.length), hset G j (.row (ver + 1) sz true (cellsF f (l ++ m))), ?_, .inr ⟨by simp [hm], j, ver + 1, h1, by simp, hget_hset_eq _ hj⟩, ?_, by simp⟩
      · have hlt : ¬ (0 + l.length + m.length) * sz ≤ (cellsF f l).length := by
          rw [hlen]
          have : l.length * sz < (0 + l.length + m.length) * sz := Nat.mul_lt_mul_of_pos_right (by omega) hpos
          omega
        rw [if_neg hlt, if_pos trivial, List.take_of_length_le (Nat.le_of_eq hlen), cellsF_append]
      · intro n hn; exact htrunc_set _ (by omega) hj
/-- Where an element stands. -/
theorem cellsF_at (hf : EncOK f sz) {x : α} : ∀ {l : List α} {j : Nat}, l[j]? = some x → ∃ r, (cellsF f l).drop (j * sz) = (f x).cells ++ r
  | [], j, h => by simp at h
  | a :: l, 0, h => by
    have : a = x := by simpa using h
    subst this
    exact ⟨cellsF f l, by simp [cellsF_cons]⟩
  | a :: l, j + 1, h => by
    obtain ⟨r, hr⟩ := cellsF_at hf (l := l) (j := j) (by simpa using h)
    refine ⟨r, ?_⟩
    rw [cellsF_cons, show (j + 1) * sz = (f a).cells.length + j * sz by rw [hf.cells, Nat.add_mul]; omega, List.drop_append]
    rw [List.drop_of_length_le (by omega), List.nil_append, show (f a).cells.length + j * sz - (f a).cells.length = j * sz by omega, hr]
end
end Go.Ev
end

