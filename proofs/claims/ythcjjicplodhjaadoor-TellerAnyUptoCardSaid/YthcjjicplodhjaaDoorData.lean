/- Data: a part of the proof that each law of this seat answers true at every input. No condition. -/
import Derived.Test.YthcjjicplodhjaaDoorEvG
import Derived.Test.YthcjjicplodhjaaDoorEvH
import Derived.DataReads
import Derived.ChangeArms
import Derived.Test.YthcjjicplodhjaaDoorRows
import Derived.KernelRfl
import Derived.Test.YthcjjicplodhjaaDoorEnc
import Derived.Test.YthcjjicplodhjaaDoorTe
set_option linter.unusedVariables false
set_option linter.unusedSimpArgs false
set_option maxRecDepth 20000
section
/- From data to values: slices of whatever. -/
namespace Go.Ev
set_option linter.unusedVariables false

/-- A value's cells are these. -/
structure RelC (S : Ctx) (v : V) (cs : List Value) : Prop where
  len : v.cells.length = cs.length
  rel : ∀ (j : Nat) (x : V) (u : Value), v.cells[j]? = some x → cs[j]? = some u → Rel S x u
  clean : v.clean = true
theorem cell_spot {w : World} {a : Addr} {u : Value} (h : w.cell? a = some u) : a.spot = none ∧ a.block < w.heap.size := by
  unfold World.cell? at h
  cases hs : a.spot with
  | none =>
    rw [hs] at h
    refine ⟨rfl, ?_⟩
    split at h
    · rename_i heq
      exact (Array.getElem?_eq_some_iff.1 heq).1
    · cases h
  | some _ => rw [hs] at h; split at h <;> simp at h
theorem add_add {a : Addr} (h : a.spot = none) (i j : Nat) : (a.add i).add j = ⟨a.block, a.off + (i + j), none⟩ := by
  obtain ⟨b, o, s⟩ := a
  simp only at h
  subst h
  unfold Addr.add
  by_cases h1 : i = 0
  · by_cases h2 : j = 0
    · subst h1; subst h2; simp
    · subst h1; simp [h2]
  · by_cases h2 : j = 0
    · subst h2; simp [h1]
    · simp [h1, h2, Nat.add_assoc]
theorem slice_rel {W : World} {a : Addr} {len cap sz : Nat} {vs : List V} (hl : vs.length = len) (hc : len ≤ cap) (hsz : 0 < sz)
    (h : ∀ (i : Nat) (v : V), vs[i]? = some v → ∃ cs, W.cells? 0 (a.add (i * sz)) sz = some cs ∧ RelC (start W) v cs) : Rel (start W) (.vs vs) (.slice (some a) len cap) := by
  have h0 : vs ≠ [] → a.spot = none ∧ a.block < W.heap.size := fun hne => by
    obtain ⟨v, r, rfl⟩ : ∃ v r, vs = v :: r := by cases vs with
      | nil => exact absurd rfl hne
      | cons v r => exact ⟨v, r, rfl⟩
    obtain ⟨cs, h1, h2⟩ := h 0 v rfl
    obtain ⟨_, k2, k3⟩ := World.cells?_some h1
    have k4 := k3 0 hsz
    have hlt : 0 < cs.length := by omega
    rw [List.getElem?_eq_getElem hlt] at k4
    have := cell_spot k4
    simpa [Addr.add] using this
  have hcell : ∀ (i : Nat) (v : V) (j : Nat) (y : V), vs[i]? = some v → v.cells[j]? = some y → ∃ u, W.cell? ⟨a.block, a.off + (i * sz + j), none⟩ = some u ∧ Rel (start W) y u := fun i v j y hi hj => by
    have hne : vs ≠ [] := by rintro rfl; simp at hi
    obtain ⟨cs, h1, h2⟩ := h i v hi
    obtain ⟨_, k2, k3⟩ := World.cells?_some h1
    have hj' : j < cs.length := by rw [← h2.len]; exact (List.getElem?_eq_some_iff.1 hj).1
    have k4 := k3 j (by omega)
    rw [add_add (h0 hne).1, List.getElem?_eq_getElem hj'] at k4
    exact ⟨_, k4, h2.rel j y _ hj (List.getElem?_eq_getElem hj')⟩
  have hcl : cleanL vs = true := by
    have : ∀ v ∈ vs, v.clean = true := fun v hv => by
      obtain ⟨i, hi⟩ := List.getElem?_of_mem hv
      obtain ⟨cs, _, h2⟩ := h i v hi
      exact h2.clean
    clear h h0 hcell hl
    induction vs with
    | nil => rfl
    | cons v r ih => simp only [cleanL, Bool.and_eq_true]; exact ⟨this v (by simp), ih fun x hx => this x (by simp [hx])⟩
  refine .vs vs (some a) len cap a.block a.off sz (fun k => (W.cell? ⟨a.block, a.off + k, none⟩).getD .nilFunc) hl.symm hc hcl (fun hne => ?_) (fun i x hi => ?_) (fun i x j y hi hj => ?_) fun i x j y hi hj => ?_
  · obtain ⟨k1, k2⟩ := h0 hne
    refine ⟨?_, start_free W _, k2⟩
    obtain ⟨b, o, s⟩ := a
    simp only at k1
    subst k1
    rfl
  · obtain ⟨cs, h1, h2⟩ := h i x hi
    rw [h2.len]
    exact (World.cells?_some h1).2.1
  · obtain ⟨u, k1, k2⟩ := hcell i x j y hi hj
    simp only [start, k1, Option.getD_some]
  · obtain ⟨u, k1, k2⟩ := hcell i x j y hi hj
    simp only [k1, Option.getD_some]
    exact k2
theorem list_choice {α : Type} {Q : Nat → α → Prop} : ∀ (n : Nat), (∀ i, i < n → ∃ e, Q i e) → ∃ l : List α, l.length = n ∧ ∀ (i : Nat) (e : α), l[i]? = some e → Q i e
  | 0, _ => ⟨[], rfl, fun i e h => by simp at h⟩
  | n + 1, h => by
    obtain ⟨l, h1, h2⟩ := list_choice n fun i hi => h i (by omega)
    obtain ⟨e, he⟩ := h n (by omega)
    refine ⟨l ++ [e], by simp [h1], fun i x hx => ?_⟩
    by_cases hi : i < l.length
    · rw [List.getElem?_append_left hi] at hx
      exact h2 i x hx
    · rw [List.getElem?_append_right (by omega)] at hx
      have : i - l.length = 0 := by
        have := (List.getElem?_eq_some_iff.1 hx).1
        simpa using this
      rw [this] at hx
      simp at hx
      subst hx
      rw [show i = n by omega]
      exact he
theorem relC_one {S : Ctx} {v : V} {u : Value} (h : Rel S v u) (hv : v.cells = [v]) (hc : v.clean = true) : RelC S v [u] := ⟨by rw [hv]; rfl, fun j x y hx hy => by
  rw [hv] at hx
  match j with
  | 0 => simp at hx hy; subst hx; subst hy; exact h
  | j + 1 => simp at hx, hc⟩
end Go.Ev
end

section
/- From data to values: expressions and rules. -/
namespace Go.Proofs.YthcjjicplodhjaaDoor
open Go Go.Ev Go.RowKit
set_option linter.unusedVariables false
set_option linter.unusedSimpArgs false

theorem c_int : Tryd.prog.cellsOf 3 = 1 := by kernel_rfl
theorem c_str : Tryd.prog.cellsOf 9 = 1 := by kernel_rfl
theorem c_bool : Tryd.prog.cellsOf 4 = 1 := by kernel_rfl
theorem c_ints : Tryd.prog.cellsOf 29 = 1 := by kernel_rfl
theorem c_exprs : Tryd.prog.cellsOf 30 = 1 := by kernel_rfl
theorem c_expr : Tryd.prog.cellsOf 32 = 6 := by kernel_rfl
theorem c_line : Tryd.prog.cellsOf 34 = 8 := by kernel_rfl
theorem bulk_pos {H : Type} (d : DataW H) : 1 ≤ Rows.uptoBulk d := by
  cases d with
  | lit l => cases l <;> simp [Rows.uptoBulk]
  | _ => simp [Rows.uptoBulk]
theorem bulk_len {H : Type} : ∀ l : List (DataW H), l.length ≤ Rows.uptoBulkAll l
  | [] => by simp
  | d :: l => by
    have := bulk_len l
    have := bulk_pos d
    simp only [Rows.uptoBulkAll, List.length_cons]
    omega
theorem bulk_sum {H : Type} {α : Type} {w : α → Nat} {ws : List α → Nat} (h0 : ws [] = 0) (h1 : ∀ x l, ws (x :: l) = w x + ws l) : ∀ (l : List α) (ds : List (DataW H)), l.length = ds.length → (∀ (i : Nat) x d, l[i]? = some x → ds[i]? = some d → w x ≤ Rows.uptoBulk d) → ws l ≤ Rows.uptoBulkAll ds
  | [], ds, _, _ => by rw [h0]; omega
  | x :: l, [], h, _ => by simp at h
  | x :: l, d :: ds, h, hw => by
    have a := hw 0 x d rfl rfl
    have b := bulk_sum h0 h1 l ds (by simpa using h) fun i y e hy he => hw (i + 1) y e (by simpa using hy) (by simpa using he)
    rw [h1]
    simp only [Rows.uptoBulkAll]
    omega
section
variable {H : Type} {enc : TypeId × Value → H} {W : World}
theorem ints_of {fuel : Nat} {cs : List Value} {x : DataW H × List MemPlace} (h : DataW.trod enc Tryd.prog W 0 (fun _ => true) true fuel 29 cs = some x) :
    ∃ (n : List Int) (u : Value), cs = [u] ∧ Rel (Ev.start W) (encI n) u ∧ n.length + 1 ≤ Rows.uptoBulk x.1 := by
  rcases DataW.trod_slice Tryd.underlying29 h with ⟨rfl, rfl⟩ | ⟨a, len, cap, elems, rest, m, rfl, rfl, rfl, _, hlc, _, hel, hat, _, _⟩
  · exact ⟨[], _, rfl, .vs [] none 0 0 0 0 0 (fun _ => .nilFunc) rfl (Nat.le_refl _) rfl (fun h => absurd rfl h) (by simp) (by simp) (by simp), by simp [Rows.uptoBulk]⟩
  · rw [c_int] at hat
    obtain ⟨n, hn1, hn2⟩ := list_choice (Q := fun i (z : Int) => W.cells? 0 (a.add (i * 1)) 1 = some [.int .i64 z]) len fun i hi => by
      have hg := hat i hi
      rw [List.getElem?_eq_getElem (by omega)] at hg
      obtain ⟨c1, hc1, hc2⟩ := Option.bind_eq_some_iff.1 hg
      obtain ⟨z, rfl, _⟩ := DataW.trod_int Tryd.underlying3 hc2
      exact ⟨z, hc1⟩
    refine ⟨n, _, rfl, slice_rel (sz := 1) (by simp [hn1]) hlc (by omega) fun i v hv => ?_, ?_⟩
    · rw [List.getElem?_map] at hv
      obtain ⟨z, hz, rfl⟩ := Option.map_eq_some_iff.1 hv
      exact ⟨_, hn2 i z hz, relC_one (.int _ _) rfl rfl⟩
    · have := bulk_len (elems.map (·.1))
      simp only [Rows.uptoBulk, List.length_map] at this ⊢
      omega
theorem expr_of : ∀ (fuel : Nat) {cs : List Value} {x : DataW H × List MemPlace}, DataW.trod enc Tryd.prog W 0 (fun _ => true) true fuel 32 cs = some x →
    ∃ e : Rd.Expr, RelC (Ev.start W) (encE e) cs ∧ Te.wE e ≤ Rows.uptoBulk x.1 := by
  intro fuel
  induction fuel using Nat.strongRecOn with
  | _ fuel ih =>
    intro cs x h
    obtain ⟨xs, n, rfl, rfl, hl, hxl, hall⟩ := DataW.trod_struct Tryd.underlying32 h
    rw [c_expr] at hl
    obtain ⟨x0, x1, x2, x3, x4, x5, rfl⟩ : ∃ x0 x1 x2 x3 x4 x5, xs = [x0, x1, x2, x3, x4, x5] := by
      match xs, hxl with
      | [x0, x1, x2, x3, x4, x5], _ => exact ⟨x0, x1, x2, x3, x4, x5, rfl⟩
    obtain ⟨u0, u1, u2, u3, u4, u5, rfl⟩ : ∃ u0 u1 u2 u3 u4 u5, cs = [u0, u1, u2, u3, u4, u5] := by
      match cs, hl with
      | [u0, u1, u2, u3, u4, u5], _ => exact ⟨u0, u1, u2, u3, u4, u5, rfl⟩
    have f0 := hall 0 _ rfl
    have f1 := hall 1 _ rfl
    have f2 := hall 2 _ rfl
    have f3 := hall 3 _ rfl
    have f4 := hall 4 _ rfl
    have f5 := hall 5 _ rfl
    simp only [c_int, c_str, c_ints, c_exprs, List.drop_zero, List.drop_succ_cons, List.take_succ_cons, List.take_zero, List.getElem?_cons_zero, List.getElem?_cons_succ] at f0 f1 f2 f3 f4 f5
    obtain ⟨k, e0, rfl, _⟩ := DataW.trod_int Tryd.underlying3 f0
    obtain ⟨t, e1, rfl, _⟩ := DataW.trod_string Tryd.underlying9 f1
    obtain ⟨ns, v2, e2, r2, b2⟩ := ints_of f2
    obtain ⟨lo, e3, rfl, _⟩ := DataW.trod_int Tryd.underlying3 f3
    obtain ⟨hi, e4, rfl, _⟩ := DataW.trod_int Tryd.underlying3 f4
    have hk : ∃ (ks : List Rd.Expr), Rel (Ev.start W) (.vs (encEs ks)) u5 ∧ Te.wEs ks + 1 ≤ Rows.uptoBulk x5.1 := by
      rcases DataW.trod_slice Tryd.underlying30 f5 with ⟨e, rfl⟩ | ⟨a, len, cap, elems, rest, m, rfl, e, rfl, _, hlc, _, hel, hat, _, _⟩
      · injection e with e
        subst e
        exact ⟨[], .vs [] none 0 0 0 0 0 (fun _ => .nilFunc) rfl (Nat.le_refl _) rfl (fun h => absurd rfl h) (by simp) (by simp) (by simp), by simp [Rows.uptoBulk, Te.wEs]⟩
      · injection e with e
        subst e
        rw [c_expr] at hat
        obtain ⟨ks, hk1, hk2⟩ := list_choice (Q := fun i (e : Rd.Expr) => ∃ cs, W.cells? 0 (a.add (i * 6)) 6 = some cs ∧ RelC (Ev.start W) (encE e) cs ∧ ∀ d, (elems.map (·.1))[i]? = some d → Te.wE e ≤ Rows.uptoBulk d) len fun i hi => by
          have hg := hat i hi
          have hge : i < elems.length := by omega
          rw [List.getElem?_eq_getElem hge] at hg
          obtain ⟨c1, hc1, hc2⟩ := Option.bind_eq_some_iff.1 hg
          obtain ⟨e, h1, h2⟩ := ih m (by omega) hc2
          refine ⟨e, c1, hc1, h1, fun d hd => ?_⟩
          rw [List.getElem?_map, List.getElem?_eq_getElem hge, Option.map_some, Option.some.injEq] at hd
          subst hd
          exact h2
        refine ⟨ks, slice_rel (sz := 6) (by rw [encEs_map]; simp [hk1]) hlc (by omega) fun i v hv => ?_, ?_⟩
        · rw [encEs_map, List.getElem?_map] at hv
          obtain ⟨e, he, rfl⟩ := Option.map_eq_some_iff.1 hv
          obtain ⟨cs, h1, h2, _⟩ := hk2 i e he
          exact ⟨cs, h1, h2⟩
        · have := bulk_sum (w := Te.wE) (ws := Te.wEs) rfl (fun _ _ => rfl) ks (elems.map (·.1)) (by simp; omega) fun i e d he hd => by
            obtain ⟨cs, _, _, h3⟩ := hk2 i e he
            exact h3 d hd
          simp only [Rows.uptoBulk]
          omega
    obtain ⟨ks, r5, b5⟩ := hk
    injection e0 with e0
    injection e1 with e1
    injection e2 with e2
    injection e3 with e3
    injection e4 with e4
    subst e0; subst e1; subst e2; subst e3; subst e4
    refine ⟨.mk k t.data.toList ns lo hi ks, ⟨rfl, fun j x u hx hu => ?_, encE_clean _⟩, ?_⟩
    · simp only [encE, cells_agg] at hx
      match j with
      | 0 => simp at hx hu; subst hx; subst hu; exact .int _ _
      | 1 => simp at hx hu; subst hx; subst hu; exact .str _
      | 2 => simp at hx hu; subst hx; subst hu; exact r2
      | 3 => simp at hx hu; subst hx; subst hu; exact .int _ _
      | 4 => simp at hx hu; subst hx; subst hu; exact .int _ _
      | 5 => simp at hx hu; subst hx; subst hu; exact r5
      | j + 6 => simp at hx
    · simp only [Te.wE, List.map_cons, List.map_nil, Rows.uptoBulk, Rows.uptoBulkAll]
      omega
theorem line_of {fuel : Nat} {cs : List Value} {x : DataW H × List MemPlace} (h : DataW.trod enc Tryd.prog W 0 (fun _ => true) true fuel 34 cs = some x) :
    ∃ l : Rd.Line, RelC (Ev.start W) (encL l) cs ∧ Te.wL l ≤ Rows.uptoBulk x.1 := by
  obtain ⟨xs, n, rfl, rfl, hl, hxl, hall⟩ := DataW.trod_struct Tryd.underlying34 h
  rw [c_line] at hl
  obtain ⟨x0, x1, x2, rfl⟩ : ∃ x0 x1 x2, xs = [x0, x1, x2] := by
    match xs, hxl with
    | [x0, x1, x2], _ => exact ⟨x0, x1, x2, rfl⟩
  obtain ⟨u0, u1, u2, u3, u4, u5, u6, u7, rfl⟩ : ∃ u0 u1 u2 u3 u4 u5 u6 u7, cs = [u0, u1, u2, u3, u4, u5, u6, u7] := by
    match cs, hl with
    | [u0, u1, u2, u3, u4, u5, u6, u7], _ => exact ⟨u0, u1, u2, u3, u4, u5, u6, u7, rfl⟩
  have f0 := hall 0 _ rfl
  have f1 := hall 1 _ rfl
  have f2 := hall 2 _ rfl
  simp only [c_str, c_bool, c_expr, List.drop_zero, List.drop_succ_cons, List.take_succ_cons, List.take_zero, List.getElem?_cons_zero, List.getElem?_cons_succ] at f0 f1 f2
  obtain ⟨t, e0, rfl, _⟩ := DataW.trod_string Tryd.underlying9 f0
  obtain ⟨b, e1, rfl⟩ := DataW.trod_bool Tryd.underlying4 f1
  obtain ⟨e, r, hw⟩ := expr_of _ f2
  change RelC (Ev.start W) (encE e) (List.take (Tryd.prog.cellsOf 32) [u2, u3, u4, u5, u6, u7]) at r
  rw [c_expr] at r
  injection e0 with e0
  injection e1 with e1
  subst e0; subst e1
  refine ⟨⟨t.data.toList, b, e⟩, ⟨by simp [encL], fun j x u hx hu => ?_, ?_⟩, ?_⟩
  · simp only [encL, cells_agg] at hx
    match j with
    | 0 => simp at hx hu; subst hx; subst hu; exact .str _
    | 1 => simp at hx hu; subst hx; subst hu; exact .bool _
    | j + 2 => exact r.rel j x u (by simpa using hx) (by simpa using hu)
  · have := r.clean
    have hc := encE_clean e
    cases e with
    | mk k t n lo hi ks =>
      simp only [encE, V.clean, cleanL, encL, cells_agg, Bool.true_and] at hc ⊢
      exact hc
  · simp only [Te.wL, List.map_cons, List.map_nil, Rows.uptoBulk, Rows.uptoBulkAll]
    omega
theorem lines_of {v : Value} {d : DataW H} {ps : List MemPlace} (hv : ∃ a len cap, v = .slice a len cap) (h : DataW.Trod enc Tryd.prog W 0 (fun _ => true) true 22 v d ps) :
    ∃ l : List Rd.Line, Rel (Ev.start W) (.vs (l.map encL)) v ∧ Te.wLs l ≤ Rows.uptoBulk d := by
  obtain ⟨fuel, hf⟩ := h
  obtain ⟨a, len, cap, rfl⟩ := hv
  rcases DataW.trod_slice Tryd.underlying22 hf with ⟨e, e'⟩ | ⟨a', len', cap', elems, rest, m, rfl, e, e', _, hlc, _, hel, hat, _, _⟩
  · have e : [Value.slice a len cap] = [.slice none 0 0] := e
    injection e with e
    rw [e]
    injection e' with e1 e2
    subst e1
    exact ⟨[], .vs [] none 0 0 0 0 0 (fun _ => .nilFunc) rfl (Nat.le_refl _) rfl (fun h => absurd rfl h) (by simp) (by simp) (by simp), by simp [Te.wLs]⟩
  · have e : [Value.slice a len cap] = [.slice (some a') len' cap'] := e
    injection e with e
    rw [e]
    injection e' with e1 e2
    subst e1
    rw [c_line] at hat
    obtain ⟨ls, hk1, hk2⟩ := list_choice (Q := fun i (l : Rd.Line) => ∃ cs, W.cells? 0 (a'.add (i * 8)) 8 = some cs ∧ RelC (Ev.start W) (encL l) cs ∧ ∀ d, (elems.map (·.1))[i]? = some d → Te.wL l ≤ Rows.uptoBulk d) len' fun i hi => by
      have hg := hat i hi
      have hge : i < elems.length := by omega
      rw [List.getElem?_eq_getElem hge] at hg
      obtain ⟨c1, hc1, hc2⟩ := Option.bind_eq_some_iff.1 hg
      obtain ⟨l, h1, h2⟩ := line_of hc2
      refine ⟨l, c1, hc1, h1, fun d hd => ?_⟩
      rw [List.getElem?_map, List.getElem?_eq_getElem hge, Option.map_some, Option.some.injEq] at hd
      subst hd
      exact h2
    refine ⟨ls, slice_rel (sz := 8) (by simp [hk1]) hlc (by omega) fun i v hv => ?_, ?_⟩
    · rw [List.getElem?_map] at hv
      obtain ⟨l, he, rfl⟩ := Option.map_eq_some_iff.1 hv
      obtain ⟨cs, h1, h2, _⟩ := hk2 i l he
      exact ⟨cs, h1, h2⟩
    · have := bulk_sum (w := Te.wL) (ws := Te.wLs) rfl (fun _ _ => rfl) ls (elems.map (·.1)) (by simp; omega) fun i l d he hd => by
        obtain ⟨cs, _, _, h3⟩ := hk2 i l he
        exact h3 d hd
      simp only [Rows.uptoBulk]
      omega
end
end Go.Proofs.YthcjjicplodhjaaDoor
end

