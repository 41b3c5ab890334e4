/- Enc: a part of the proof that each law of this seat answers true at every input. No condition. -/
import Derived.Test.YthcjjicplodhjaaDoorEvH
import Derived.Test.YthcjjicplodhjaaDoorRd
set_option linter.unusedVariables false
set_option linter.unusedSimpArgs false
set_option maxRecDepth 20000
section
/- Expressions and rules as values. -/
namespace Go.Ev
set_option linter.unusedVariables false

def encI (l : List Int) : V := .vs (l.map (V.int .i64))
@[simp] theorem Qbq (l : List Int) : (encI l).cells = [encI l] := rfl
@[simp] theorem Qbs (l : List Int) : (encI l).scal = true := rfl
@[simp] theorem Qbr (l : List Int) : (encI l).maxRef = 0 := rfl
mutual
def encE : Rd.Expr → V
  | .mk k t n lo hi ks => .agg [.int .i64 k, .str t, encI n, .int .i64 lo, .int .i64 hi, .vs (encEs ks)]
def encEs : List Rd.Expr → List V
  | [] => []
  | e :: l => encE e :: encEs l
end
def encL (x : Rd.Line) : V := .agg (.str x.name :: .bool x.more :: (encE x.expr).cells)
theorem encEs_map (l : List Rd.Expr) : encEs l = l.map encE := by
  induction l with
  | nil => rfl
  | cons e l ih => rw [encEs, ih]; rfl
@[simp] theorem Qbh (e : Rd.Expr) : (encE e).cells.length = 6 := by cases e; rfl
@[simp] theorem Qbn (e : Rd.Expr) : scalL (encE e).cells = true := by cases e; rfl
@[simp] theorem Qbk (e : Rd.Expr) : (encE e).maxRef = 0 := by cases e; rfl
@[simp] theorem Qbo (e : Rd.Expr) : V.agg (List.take 6 (encE e).cells) = encE e := by cases e; rfl
@[simp] theorem Qbg (e : Rd.Expr) : V.agg (encE e).cells = encE e := by cases e; rfl
@[simp] theorem Qbl (e : Rd.Expr) : maxRefL (encE e).cells = 0 := by cases e; rfl
@[simp] theorem Qbp (e : Rd.Expr) : List.take 6 (encE e).cells = (encE e).cells := List.take_of_length_le (by simp)
@[simp] theorem Qbi (e : Rd.Expr) : List.drop 6 (encE e).cells = [] := List.drop_of_length_le (by simp)
@[simp] theorem Qbj (H : Heap) (base n : Nat) (e : Rd.Expr) : mapO (frz H base (n + 1)) (encE e).cells = some (encE e).cells := by cases e; rfl
theorem encE_frz (H : Heap) (base n : Nat) (e : Rd.Expr) : frz H base (n + 1 + 1) (encE e) = some (encE e) := by cases e; rfl
@[simp] theorem Qbm (base : Nat) (e : Rd.Expr) (H : Heap) : rt false base (encE e) H = some (.ret (encE e), htrunc H base) := rt_frz (encE_frz H base 10 e) (by simp)
theorem encI_clean (l : List Int) : (encI l).clean = true := by
  show cleanL _ = true
  induction l with
  | nil => rfl
  | cons a l ih => exact ih
mutual
theorem encE_clean : ∀ e : Rd.Expr, (encE e).clean = true
  | .mk k t n lo hi ks => by
    simp only [encE, V.clean, cleanL, encI_clean, encEs_clean ks, Bool.and_self]
theorem encEs_clean : ∀ l : List Rd.Expr, cleanL (encEs l) = true
  | [] => rfl
  | e :: l => by rw [encEs, cleanL, encE_clean e, encEs_clean l]; rfl
end
theorem encE_nrm (e : Rd.Expr) : (encE e).nrm = encE e := by cases e; rfl
@[simp] theorem Qfh (z : V) (e : Rd.Expr) : oLit 6 1 z [(0, encE e)] = some (.vs [encE e]) := oLit_1 (by simp) (by simp) (encE_nrm e) (encE_clean e)
/-- The cells of expressions in a row. -/
def cellsE (l : List Rd.Expr) : List V := flat (encEs l)
theorem cellsE_append (l m : List Rd.Expr) : cellsE (l ++ m) = cellsE l ++ cellsE m := by
  induction l with
  | nil => rfl
  | cons e l ih => simp only [List.cons_append, cellsE, encEs, flat] at ih ⊢; rw [ih]; simp
theorem cellsE_one (e : Rd.Expr) : cellsE [e] = (encE e).cells := by simp [cellsE, encEs, flat]
@[simp] theorem Qan (l : List Rd.Expr) : (cellsE l).length = l.length * 6 := by
  induction l with
  | nil => rfl
  | cons e l ih => simp only [cellsE, encEs, flat, List.length_append, Qbh, List.length_cons] at ih ⊢; omega
theorem cellsE_scal (l : List Rd.Expr) : scalL (cellsE l) = true := by
  induction l with
  | nil => rfl
  | cons e l ih => cases e; simp only [cellsE, encEs, flat] at ih ⊢; simpa [encE] using ih
theorem cellsE_clean (l : List Rd.Expr) : cleanL (cellsE l) = true := by
  induction l with
  | nil => rfl
  | cons e l ih =>
    have := encE_clean e
    cases e; simp only [cellsE, encEs, flat] at ih ⊢
    simp only [encE, V.clean] at this
    simp only [encE, Qao, List.cons_append, List.nil_append, cleanL, Bool.and_eq_true] at this ⊢
    simp [this, ih]
theorem cellsE_plain (l : List Rd.Expr) : ∀ c ∈ cellsE l, c.plain = true := by
  induction l with
  | nil => intro c hc; simp [cellsE, encEs, flat] at hc
  | cons e l ih =>
    intro c hc
    cases e with
    | mk k t n lo hi ks =>
      simp only [cellsE, encEs, flat, encE, Qao, List.mem_append, List.mem_cons, List.not_mem_nil, or_false] at hc ih
      rcases hc with (rfl | rfl | rfl | rfl | rfl | rfl) | hc
      · rfl
      · rfl
      · rfl
      · rfl
      · rfl
      · rfl
      · exact ih c hc
theorem frz_encEs {H : Heap} {base n i ver : Nat} {l : List Rd.Expr} {m : Nat} (hg : hget H i = some (.row ver 6 true (cellsE l))) (hb : base ≤ i) (hm : m = l.length) : frz H base (n + 1 + 1) (.rs i ver 6 0 m) = some (.vs (encEs l)) := by
  subst hm
  rw [frz_row hg hb (by simp) (by omega) (fun c hc => frz_plain (cellsE_plain l c hc)) (cellsE_clean l) (cellsE_scal l) (.inl rfl)]
  have := chunk_flat (sz := 6) (l := encEs l) (fun v hv => by
    rw [encEs_map] at hv
    obtain ⟨e, _, rfl⟩ := List.mem_map.1 hv
    exact ⟨(encE e).cells, (Qbg e).symm, Qbh e⟩)
  rw [show (encEs l).length = l.length by rw [encEs_map]; simp] at this
  rw [cellsE, this]
theorem append_encE {base i ver : Nat} {H : Heap} {l : List Rd.Expr} {e : Rd.Expr} {n : Nat} (hg : hget H i = some (.row ver 6 true (cellsE l))) (hn : n = l.length) (hr : l.length < 1000000) :
    oAppend base 6 88 true (.rs i ver 6 0 n) (.vs [encE e]) H = some (.rs i (ver + 1) 6 0 (n + 1), hset H i (.row (ver + 1) 6 true (cellsE (l ++ [e])))) := by
  subst hn
  rw [oAppend_row1 hg (by simp) (Qbh e) (Qbn e) (by omega) (.inr (by simp)) (by simp [roomOk]; omega)]
  rw [cellsE_append, cellsE_one]
theorem row_encE {z : List V} {e : Rd.Expr} {H : Heap} (hz : z.length = 6) : oRow 1 6 true z H [(0, encE e)] = some (.rs H.length 0 6 0 1, .row 0 6 true (cellsE [e]) :: H) := by
  rw [oRow_1 hz (Qbh e) (Qbn e) (by omega), cellsE_one]
theorem encL_ok : EncOK encL 8 := ⟨by omega, fun x => by
  obtain ⟨nm, more, e⟩ := x
  have := encE_clean e
  cases e with
  | mk k t n lo hi ks =>
    refine ⟨_, rfl, rfl, rfl, ?_, ?_, rfl⟩
    · simp only [encE, V.clean, cleanL] at this ⊢
      simpa [encE, cleanL, V.clean] using this
    · intro c hc
      simp only [encE, Qao, List.mem_cons, List.not_mem_nil, or_false] at hc
      rcases hc with rfl | rfl | rfl | rfl | rfl | rfl | rfl | rfl <;> rfl⟩
end Go.Ev
end

section
/- Expressions that are built by their fields. -/
namespace Go.Ev
set_option linter.unusedVariables false
abbrev zE : List V := [.int .i64 0, .str [], .nils, .int .i64 0, .int .i64 0, .nils]
theorem bE_text (k : Int) (t : List UInt8) : oBuild [.int .i64 0, .str [], .nils, .int .i64 0, .int .i64 0, .nils] [(0, 1), (1, 1), (2, 1), (3, 1), (4, 1), (5, 1)] [(0, .int .i64 k), (1, .str t)] = some (.agg [.int .i64 k, .str t, .nils, .int .i64 0, .int .i64 0, .nils]) := by
  simp [splice]
theorem bE_kind (k : Int) : oBuild [.int .i64 0, .str [], .nils, .int .i64 0, .int .i64 0, .nils] [(0, 1), (1, 1), (2, 1), (3, 1), (4, 1), (5, 1)] [(0, .int .i64 k)] = some (.agg [.int .i64 k, .str [], .nils, .int .i64 0, .int .i64 0, .nils]) := by
  simp [splice]
theorem bE_nums (k : Int) (l : List V) : oBuild [.int .i64 0, .str [], .nils, .int .i64 0, .int .i64 0, .nils] [(0, 1), (1, 1), (2, 1), (3, 1), (4, 1), (5, 1)] [(0, .int .i64 k), (2, .vs l)] = some (.agg [.int .i64 k, .str [], .vs l, .int .i64 0, .int .i64 0, .nils]) := by
  simp [splice]
theorem bE_rep (k lo hi : Int) (l : List V) : oBuild [.int .i64 0, .str [], .nils, .int .i64 0, .int .i64 0, .nils] [(0, 1), (1, 1), (2, 1), (3, 1), (4, 1), (5, 1)] [(0, .int .i64 k), (3, .int .i64 lo), (4, .int .i64 hi), (5, .vs l)] = some (.agg [.int .i64 k, .str [], .nils, .int .i64 lo, .int .i64 hi, .vs l]) := by
  simp [splice]
theorem bE_kids (k : Int) (l : List V) : oBuild [.int .i64 0, .str [], .nils, .int .i64 0, .int .i64 0, .nils] [(0, 1), (1, 1), (2, 1), (3, 1), (4, 1), (5, 1)] [(0, .int .i64 k), (5, .vs l)] = some (.agg [.int .i64 k, .str [], .nils, .int .i64 0, .int .i64 0, .vs l]) := by
  simp [splice]
/-- A rule with a name. -/
theorem bL_name (t : List UInt8) (k : V) (s : List UInt8) (a b c d : V) (hk : k.scal = true) (ha : a.scal = true) (hb : b.scal = true) (hc : c.scal = true) (hd : d.scal = true) : oBuild [.str [], .bool false, .int .i64 0, .str [], .nils, .int .i64 0, .int .i64 0, .nils] [(0, 1), (1, 1), (2, 6)] [(0, .str t), (2, .agg [k, .str s, a, b, c, d])] = some (.agg [.str t, .bool false, k, .str s, a, b, c, d]) := by
  have e : scalL [k, .str s, a, b, c, d] = true := by simp [hk, ha, hb, hc, hd]
  simp [splice, e]
theorem bL_nk (t : List UInt8) (k : Int) (s : List UInt8) (lo hi : Int) (ks : List Rd.Expr) : oBuild [.str [], .bool false, .int .i64 0, .str [], .nils, .int .i64 0, .int .i64 0, .nils] [(0, 1), (1, 1), (2, 6)] [(0, .str t), (2, .agg [.int .i64 k, .str s, .nils, .int .i64 lo, .int .i64 hi, .vs (encEs ks)])] = some (.agg [.str t, .bool false, .int .i64 k, .str s, .nils, .int .i64 lo, .int .i64 hi, .vs (encEs ks)]) :=
  bL_name t _ s _ _ _ _ rfl rfl rfl rfl rfl
theorem oLit_v1 {sz : Nat} {z x : V} (hx : x.cells.length = sz) (hs : scalL x.cells = true) (hc : x.nrm.clean = true) : oLit sz 1 z [(0, x)] = some (.vs [x.nrm]) := by
  rw [oLit_eq]
  simp [rLit, okParts, hx, hs, hc, setAll]
theorem oLit_v2 {sz : Nat} {z x y : V} (hx : x.cells.length = sz) (hs : scalL x.cells = true) (hc : x.nrm.clean = true) (hy : y.cells.length = sz) (ht : scalL y.cells = true) (hd : y.nrm.clean = true) : oLit sz 2 z [(0, x), (1, y)] = some (.vs [x.nrm, y.nrm]) := by
  rw [oLit_eq]
  simp [rLit, okParts, hx, hs, hc, hy, ht, hd, setAll, List.range, List.range.loop]
/-- Is a value an expression, but for nil lists? -/
structure IsE (v : V) (e : Rd.Expr) : Prop where
  nrm : v.nrm = encE e
  cells : v.cells.length = 6
  scal : scalL v.cells = true
theorem isE_enc (e : Rd.Expr) : IsE (encE e) e := ⟨encE_nrm e, by simp, by simp⟩
theorem isE_nn (k : Int) (t : List UInt8) (lo hi : Int) : IsE (.agg [.int .i64 k, .str t, .nils, .int .i64 lo, .int .i64 hi, .nils]) (.mk k t [] lo hi []) := ⟨rfl, rfl, rfl⟩
theorem isE_nk (k : Int) (t : List UInt8) (lo hi : Int) (ks : List Rd.Expr) : IsE (.agg [.int .i64 k, .str t, .nils, .int .i64 lo, .int .i64 hi, .vs (encEs ks)]) (.mk k t [] lo hi ks) := ⟨rfl, rfl, rfl⟩
theorem IsE.lit1 {v : V} {e : Rd.Expr} (h : IsE v e) (z : V) : oLit 6 1 z [(0, v)] = some (.vs (encEs [e])) := by
  rw [oLit_v1 h.cells h.scal (by rw [h.nrm]; exact encE_clean e), h.nrm]; rfl
theorem IsE.lit2 {v w : V} {e g : Rd.Expr} (h : IsE v e) (h' : IsE w g) (z : V) : oLit 6 2 z [(0, v), (1, w)] = some (.vs (encEs [e, g])) := by
  rw [oLit_v2 h.cells h.scal (by rw [h.nrm]; exact encE_clean e) h'.cells h'.scal (by rw [h'.nrm]; exact encE_clean g), h.nrm, h'.nrm]; rfl
theorem litL_nk (z : V) (nm : List UInt8) (more : Bool) (k : Int) (t : List UInt8) (lo hi : Int) (ks : List Rd.Expr) : oLit 8 1 z [(0, .agg [.str nm, .bool more, .int .i64 k, .str t, .nils, .int .i64 lo, .int .i64 hi, .vs (encEs ks)])] = some (.vs ([⟨nm, more, .mk k t [] lo hi ks⟩].map encL)) :=
  oLit_v1 (x := .agg [.str nm, .bool more, .int .i64 k, .str t, .nils, .int .i64 lo, .int .i64 hi, .vs (encEs ks)]) rfl rfl (by simp [V.nrm, nrmL, V.clean, cleanL, encEs_clean])
theorem IsE.cs {cs : List V} {e : Rd.Expr} (h : IsE (.agg cs) e) : ∃ a b c d f g, cs = [a, b, c, d, f, g] := by
  have := h.cells
  match cs, this with
  | [a, b, c, d, f, g], _ => exact ⟨a, b, c, d, f, g, rfl⟩
theorem IsE.line {cs : List V} {e : Rd.Expr} (h : IsE (.agg cs) e) (t : List UInt8) : oBuild [.str [], .bool false, .int .i64 0, .str [], .nils, .int .i64 0, .int .i64 0, .nils] [(0, 1), (1, 1), (2, 6)] [(0, .str t), (2, .agg cs)] = some (.agg (.str t :: .bool false :: cs)) := by
  obtain ⟨a, b, c, d, f, g, rfl⟩ := h.cs
  have hs := h.scal
  simp only [Qao] at hs
  simp [splice, hs]
end Go.Ev
end

section
/- A list under way, as a slice: nil, or a row above a place in the heap. -/
namespace Go.Ev
set_option linter.unusedVariables false

def RowsAt {α : Type} (f : α → V) (sz : Nat) (b : Nat) (G : Heap) (v : V) (l : List α) : Prop :=
  (l = [] ∧ v = .nils) ∨ (l ≠ [] ∧ ∃ i ver, b ≤ i ∧ v = .rs i ver sz 0 l.length ∧ hget G i = some (.row ver sz true (cellsF f l)))
theorem htrunc_set {H : Heap} {b i : Nat} (x : Blk) (h : b ≤ i) (hi : i < H.length) : htrunc (hset H i x) b = htrunc H b := by
  unfold htrunc
  rw [hset_length]
  induction H with
  | nil => rfl
  | cons y H ih =>
    by_cases he : i = H.length
    · subst he
      rw [Qct]
      obtain ⟨k, hk⟩ : ∃ k, (y :: H).length - b = k + 1 := ⟨H.length - b, by simp; omega⟩
      rw [hk]; rfl
    · rw [hset_below he]
      simp only [List.length_cons] at hi
      have e1 : (y :: H).length - b = (H.length - b) + 1 := by simp; omega
      rw [e1, List.drop_succ_cons, List.drop_succ_cons]
      exact ih (by omega)
section
variable {α : Type} {f : α → V} {sz : Nat}
theorem RowsAt.set {b i : Nat} {G : Heap} {v : V} {l : List α} (h : RowsAt f sz b G v l) (x : Blk) (hi : i < b) : RowsAt f sz b (hset G i x) v l := by
  rcases h with h | ⟨h0, j, ver, h1, h2, h3⟩
  · exact .inl h
  · exact .inr ⟨h0, j, ver, h1, h2, by rw [hget_hset_ne x (by omega)]; exact h3⟩
theorem RowsAt.len {b : Nat} {G : Heap} {v : V} {l : List α} (h : RowsAt f sz b G v l) : oLenSl v = some (.int .i64 l.length) := by
  rcases h with ⟨h1, h2⟩ | ⟨h0, j, ver, h1, h2, h3⟩
  · subst h1; subst h2; simp
  · subst h2; simp
theorem RowsAt.app (hf : EncOK f sz) {b base by_ : Nat} {G : Heap} {v : V} {l : List α} {a : α} (h : RowsAt f sz b G v l) (hb : b ≤ G.length) (hr : roomOk (l.length + 1) by_ = true) :
    ∃ v' G', oAppend base sz by_ true v (.vs [f a]) G = some (v', G') ∧ RowsAt f sz b G' v' (l ++ [a]) ∧ (∀ i, i < b → hget G' i = hget G i) ∧ (∀ n, n ≤ b → htrunc G' n = htrunc G n) ∧ G.length ≤ G'.length := by
  rcases h with ⟨h1, h2⟩ | ⟨h0, j, ver, h1, h2, h3⟩
  · subst h1; subst h2
    refine ⟨_, _, hf.append_nil hr, .inr ⟨by simp, G.length, 0, hb, rfl, by simp⟩, ?_, ?_, by simp⟩
    · intro i hi; exact hget_old _ (by omega)
    · intro n hn; exact htrunc_cons (by omega)
  · subst h2
    have hj := hget_lt h3
    refine ⟨_, _, hf.append h3 rfl hr, .inr ⟨by simp, j, ver + 1, h1, by simp, hget_hset_eq _ hj⟩, ?_, ?_, by simp⟩
    · intro i hi; exact hget_hset_ne _ (by omega)
    · intro n hn; exact htrunc_set _ (by omega) hj
theorem RowsAt.frz (hf : EncOK f sz) {b base n : Nat} {G : Heap} {v : V} {l : List α} (h : RowsAt f sz b G v l) (hb : base ≤ b) : Ev.frz G base (n + 1 + 1) v = some (.vs (l.map f)) := by
  rcases h with ⟨h1, h2⟩ | ⟨h0, j, ver, h1, h2, h3⟩
  · subst h1; subst h2; rfl
  · subst h2; exact hf.frz_row h3 (by omega) rfl
end
end Go.Ev
end

