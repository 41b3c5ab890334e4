/- Data: a part of the proof that each law of this seat answers true at every input. No condition. -/
import Derived.Test.YtjnkigaiogjfcaaDoorRows
import Derived.KernelRfl
import Derived.Test.YtjnkigaiogjfcaaDoorEvH
import Derived.Test.YtjnkigaiogjfcaaDoorXa
set_option linter.unusedVariables false
set_option linter.unusedSimpArgs false
set_option maxRecDepth 20000
section
/- From data to values: sets and regular expressions. -/
namespace Go.Proofs.YtjnkigaiogjfcaaDoor
open Go Go.Ev Go.RowKit Go.X7
set_option linter.unusedVariables false
set_option linter.unusedSimpArgs false

theorem c_int : Tryd.prog.cellsOf 3 = 1 := by kernel_rfl
theorem c_u64 : Tryd.prog.cellsOf 23 = 1 := by kernel_rfl
theorem c_set : Tryd.prog.cellsOf 25 = 4 := by kernel_rfl
theorem c_res : Tryd.prog.cellsOf 22 = 1 := by kernel_rfl
theorem c_re : Tryd.prog.cellsOf 31 = 6 := by kernel_rfl
theorem bulk_sum {H : Type} {α : Type} {w : α → Nat} {ws : List α → Nat} (h0 : ws [] = 0) (h1 : ∀ x l, ws (x :: l) = w x + ws l) : ∀ (l : List α) (ds : List (DataW H)), l.length = ds.length → (∀ (i : Nat) x d, l[i]? = some x → ds[i]? = some d → w x ≤ Rows.uptoBulk d) → ws l ≤ Rows.uptoBulkAll ds
 | [], ds, _, _ => by rw [h0]; omega
 | x :: l, [], h, _ => by simp at h
 | x :: l, d :: ds, h, hw => by
  have a := hw 0 x d rfl rfl
  have b := bulk_sum h0 h1 l ds (by simpa using h) fun i y e hy he => hw (i + 1) y e (by simpa using hy) (by simpa using he)
  rw [h1]
  simp only [Rows.uptoBulkAll]
  omega
theorem u64_wf {n : Int} (h : (Lit.int .u64 n).wf = true) : ∃ k : Nat, n = k ∧ k < 18446744073709551616 := by
 simp [Lit.wf, IntKind.min, IntKind.max, IntKind.signed, IntKind.bits] at h
 exact ⟨n.toNat, by omega, by omega⟩
section
variable {H : Type} {enc : TypeId × Value → H} {W : World}
theorem set_of {fuel : Nat} {cs : List Value} {x : DataW H × List MemPlace} (h : DataW.trod enc Tryd.prog W 0 (fun _ => true) true fuel 25 cs = some x) :
  ∃ s : S4, s.ok ∧ cs = [.int .u64 s.a, .int .u64 s.b, .int .u64 s.c, .int .u64 s.d] := by
 obtain ⟨xs, m, rfl, rfl, hl, hxl, hall⟩ := DataW.trod_array Tryd.underlying25 h
 rw [c_set] at hl
 obtain ⟨u0, u1, u2, u3, rfl⟩ : ∃ u0 u1 u2 u3, cs = [u0, u1, u2, u3] := by
  match cs, hl with
  | [u0, u1, u2, u3], _ => exact ⟨u0, u1, u2, u3, rfl⟩
 obtain ⟨x0, x1, x2, x3, rfl⟩ : ∃ x0 x1 x2 x3, xs = [x0, x1, x2, x3] := by
  match xs, hxl with
  | [x0, x1, x2, x3], _ => exact ⟨x0, x1, x2, x3, rfl⟩
 have f0 := hall 0 (by omega)
 have f1 := hall 1 (by omega)
 have f2 := hall 2 (by omega)
 have f3 := hall 3 (by omega)
 rw [c_u64] at f0 f1 f2 f3
 simp only [Nat.zero_mul, Nat.one_mul, Nat.reduceMul, List.drop_zero, List.drop_succ_cons, List.take_succ_cons, List.take_zero, List.getElem?_cons_zero, List.getElem?_cons_succ] at f0 f1 f2 f3
 obtain ⟨n0, e0, _, w0⟩ := DataW.trod_int Tryd.underlying23 f0
 obtain ⟨n1, e1, _, w1⟩ := DataW.trod_int Tryd.underlying23 f1
 obtain ⟨n2, e2, _, w2⟩ := DataW.trod_int Tryd.underlying23 f2
 obtain ⟨n3, e3, _, w3⟩ := DataW.trod_int Tryd.underlying23 f3
 injection e0 with e0
 injection e1 with e1
 injection e2 with e2
 injection e3 with e3
 subst e0; subst e1; subst e2; subst e3
 obtain ⟨k0, rfl, h0⟩ := u64_wf w0
 obtain ⟨k1, rfl, h1⟩ := u64_wf w1
 obtain ⟨k2, rfl, h2⟩ := u64_wf w2
 obtain ⟨k3, rfl, h3⟩ := u64_wf w3
 exact ⟨⟨k0, k1, k2, k3⟩, ⟨h0, h1, h2, h3⟩, rfl⟩
theorem set_val {v : Value} {d : DataW H} {ps : List MemPlace} (h : DataW.Trod enc Tryd.prog W 0 (fun _ => true) true 25 v d ps) :
  ∃ s : S4, s.ok ∧ Rel (Ev.start W) (encS s) v := by
 obtain ⟨fuel, hf⟩ := h
 obtain ⟨s, hs, hc⟩ := set_of hf
 refine ⟨s, hs, ?_⟩
 obtain ⟨us, rfl⟩ : ∃ us, v = .agg us := by
  cases v with
  | agg us => exact ⟨us, rfl⟩
  | _ => simp [Value.cells] at hc
 have hu : us.toList = [.int .u64 s.a, .int .u64 s.b, .int .u64 s.c, .int .u64 s.d] := hc
 refine .agg _ _ (by rw [← Array.length_toList, hu]; rfl) fun j x u hx hu' => ?_
 rw [← Array.getElem?_toList, hu] at hu'
 match j with
 | 0 => simp at hx hu'; subst hx; subst hu'; exact .int _ _
 | 1 => simp at hx hu'; subst hx; subst hu'; exact .int _ _
 | 2 => simp at hx hu'; subst hx; subst hu'; exact .int _ _
 | 3 => simp at hx hu'; subst hx; subst hu'; exact .int _ _
 | j + 4 => simp at hx
theorem re_of : ∀ (fuel : Nat) {cs : List Value} {x : DataW H × List MemPlace}, DataW.trod enc Tryd.prog W 0 (fun _ => true) true fuel 31 cs = some x →
  ∃ e : X, RelC (Ev.start W) (encX e) cs ∧ e.ok ∧ e.size ≤ Rows.uptoBulk x.1 := by
 intro fuel
 induction fuel using Nat.strongRecOn with
 | _ fuel ih =>
  intro cs x h
  obtain ⟨xs, n, rfl, rfl, hl, hxl, hall⟩ := DataW.trod_struct Tryd.underlying31 h
  rw [c_re] at hl
  obtain ⟨x0, x1, x2, rfl⟩ : ∃ x0 x1 x2, xs = [x0, x1, x2] := by
   match xs, hxl with
   | [x0, x1, x2], _ => exact ⟨x0, x1, x2, rfl⟩
  obtain ⟨u0, u1, u2, u3, u4, u5, rfl⟩ : ∃ u0 u1 u2 u3 u4 u5, cs = [u0, u1, u2, u3, u4, u5] := by
   match cs, hl with
   | [u0, u1, u2, u3, u4, u5], _ => exact ⟨u0, u1, u2, u3, u4, u5, rfl⟩
  have f0 := hall 0 _ rfl
  have f1 := hall 1 _ rfl
  have f2 := hall 2 _ rfl
  simp only [c_int, c_set, c_res, List.drop_zero, List.drop_succ_cons, List.take_succ_cons, List.take_zero, List.getElem?_cons_zero, List.getElem?_cons_succ] at f0 f1 f2
  obtain ⟨k, e0, rfl, _⟩ := DataW.trod_int Tryd.underlying3 f0
  obtain ⟨s, hs, e1⟩ := set_of f1
  have hk : ∃ (ks : List X), Rel (Ev.start W) (.vs (encXs ks)) u5 ∧ oks ks ∧ sizes ks + 1 ≤ Rows.uptoBulk x2.1 := by
   rcases DataW.trod_slice Tryd.underlying22 f2 with ⟨e, rfl⟩ | ⟨a, len, cap, elems, rest, m, rfl, e, rfl, _, hlc, _, hel, hat, _, _⟩
   ·injection e with e
    subst e
    exact ⟨[], .vs [] none 0 0 0 0 0 (fun _ => .nilFunc) rfl (Nat.le_refl _) rfl (fun h => absurd rfl h) (by simp) (by simp) (by simp), trivial, by simp [Rows.uptoBulk, sizes]⟩
   ·injection e with e
    subst e
    rw [c_re] at hat
    obtain ⟨ks, hk1, hk2⟩ := list_choice (Q := fun i (e : X) => ∃ cs, W.cells? 0 (a.add (i * 6)) 6 = some cs ∧ RelC (Ev.start W) (encX e) cs ∧ e.ok ∧ ∀ d, (elems.map (·.1))[i]? = some d → e.size ≤ Rows.uptoBulk d) len fun i hi => by
     have hg := hat i hi
     have hge : i < elems.length := by omega
     rw [List.getElem?_eq_getElem hge] at hg
     obtain ⟨c1, hc1, hc2⟩ := Option.bind_eq_some_iff.1 hg
     obtain ⟨e, h1, h0, h2⟩ := ih m (by omega) hc2
     refine ⟨e, c1, hc1, h1, h0, fun d hd => ?_⟩
     rw [List.getElem?_map, List.getElem?_eq_getElem hge, Option.map_some, Option.some.injEq] at hd
     subst hd
     exact h2
    refine ⟨ks, slice_rel (sz := 6) (by rw [encXs_map]; simp [hk1]) hlc (by omega) fun i v hv => ?_, oks_iff.2 fun e he => ?_, ?_⟩
    ·rw [encXs_map, List.getElem?_map] at hv
     obtain ⟨e, he, rfl⟩ := Option.map_eq_some_iff.1 hv
     obtain ⟨cs, h1, h2, _⟩ := hk2 i e he
     exact ⟨cs, h1, h2⟩
    ·obtain ⟨i, hi⟩ := List.getElem?_of_mem he
     obtain ⟨cs, _, _, h0, _⟩ := hk2 i e hi
     exact h0
    ·have := bulk_sum (w := X.size) (ws := sizes) rfl (fun _ _ => rfl) ks (elems.map (·.1)) (by simp; omega) fun i e d he hd => by
      obtain ⟨cs, _, _, _, h3⟩ := hk2 i e he
      exact h3 d hd
     simp only [Rows.uptoBulk]
     omega
  obtain ⟨ks, r5, o5, b5⟩ := hk
  injection e0 with e0
  injection e1 with e1 e2
  injection e2 with e2 e3
  injection e3 with e3 e4
  injection e4 with e4
  subst e0; subst e1; subst e2; subst e3; subst e4
  refine ⟨.mk k s ks, ⟨rfl, fun j x u hx hu => ?_, encX_clean _⟩, ⟨hs, o5⟩, ?_⟩
  ·simp only [encX, Qan] at hx
   match j with
   | 0 => simp at hx hu; subst hx; subst hu; exact .int _ _
   | 1 => simp at hx hu; subst hx; subst hu; exact .int _ _
   | 2 => simp at hx hu; subst hx; subst hu; exact .int _ _
   | 3 => simp at hx hu; subst hx; subst hu; exact .int _ _
   | 4 => simp at hx hu; subst hx; subst hu; exact .int _ _
   | 5 => simp at hx hu; subst hx; subst hu; exact r5
   | j + 6 => simp at hx
  ·simp only [X.size, List.map_cons, List.map_nil, Rows.uptoBulk, Rows.uptoBulkAll]
   omega
theorem res_of {v : Value} {d : DataW H} {ps : List MemPlace} (hv : ∃ a len cap, v = .slice a len cap) (h : DataW.Trod enc Tryd.prog W 0 (fun _ => true) true 22 v d ps) :
  ∃ l : List X, Rel (Ev.start W) (.vs (encXs l)) v ∧ sizes l ≤ Rows.uptoBulk d ∧ ∀ x ∈ l, x.ok := by
 obtain ⟨fuel, hf⟩ := h
 obtain ⟨a, len, cap, rfl⟩ := hv
 rcases DataW.trod_slice Tryd.underlying22 hf with ⟨e, e'⟩ | ⟨a', len', cap', elems, rest, m, rfl, e, e', _, hlc, _, hel, hat, _, _⟩
 ·have e : [Value.slice a len cap] = [.slice none 0 0] := e
  injection e with e
  rw [e]
  injection e' with e1 e2
  subst e1
  exact ⟨[], .vs [] none 0 0 0 0 0 (fun _ => .nilFunc) rfl (Nat.le_refl _) rfl (fun h => absurd rfl h) (by simp) (by simp) (by simp), by simp [sizes], by simp⟩
 ·have e : [Value.slice a len cap] = [.slice (some a') len' cap'] := e
  injection e with e
  rw [e]
  injection e' with e1 e2
  subst e1
  rw [c_re] at hat
  obtain ⟨ls, hk1, hk2⟩ := list_choice (Q := fun i (l : X) => ∃ cs, W.cells? 0 (a'.add (i * 6)) 6 = some cs ∧ RelC (Ev.start W) (encX l) cs ∧ l.ok ∧ ∀ d, (elems.map (·.1))[i]? = some d → l.size ≤ Rows.uptoBulk d) len' fun i hi => by
   have hg := hat i hi
   have hge : i < elems.length := by omega
   rw [List.getElem?_eq_getElem hge] at hg
   obtain ⟨c1, hc1, hc2⟩ := Option.bind_eq_some_iff.1 hg
   obtain ⟨l, h1, h0, h2⟩ := re_of _ hc2
   refine ⟨l, c1, hc1, h1, h0, fun d hd => ?_⟩
   rw [List.getElem?_map, List.getElem?_eq_getElem hge, Option.map_some, Option.some.injEq] at hd
   subst hd
   exact h2
  refine ⟨ls, slice_rel (sz := 6) (by simp [hk1]) hlc (by omega) fun i v hv => ?_, ?_, fun x hx => ?_⟩
  ·rw [encXs_map, List.getElem?_map] at hv
   obtain ⟨l, he, rfl⟩ := Option.map_eq_some_iff.1 hv
   obtain ⟨cs, h1, h2, _⟩ := hk2 i l he
   exact ⟨cs, h1, h2⟩
  ·have := bulk_sum (w := X.size) (ws := sizes) rfl (fun _ _ => rfl) ls (elems.map (·.1)) (by simp; omega) fun i l d he hd => by
    obtain ⟨cs, _, _, _, h3⟩ := hk2 i l he
    exact h3 d hd
   simp only [Rows.uptoBulk]
   omega
  ·obtain ⟨i, hi⟩ := List.getElem?_of_mem hx
   obtain ⟨cs, _, _, h0, _⟩ := hk2 i x hi
   exact h0
end
end Go.Proofs.YtjnkigaiogjfcaaDoor
end

