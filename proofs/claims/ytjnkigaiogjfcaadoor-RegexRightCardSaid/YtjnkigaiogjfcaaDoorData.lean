/- Data: a part of the proof that each law of this seat answers true at every input. No condition. -/
import Derived.Test.YtjnkigaiogjfcaaDoorRows
import Derived.KernelRfl
import Derived.Test.YtjnkigaiogjfcaaDoorEvH
import Derived.Test.YtjnkigaiogjfcaaDoorXa
set_option linter.unusedVariables false
set_option linter.unusedSimpArgs false
set_option maxRecDepth 20000
section
/- From data to values: sets and regular expressions. -/
namespace Go.Proofs.YtjnkigaiogjfcaaDoor
open Go Go.Ev Go.RowKit Go.X7
set_option linter.unusedVariables false
set_option linter.unusedSimpArgs false

theorem c_u64 : Tryd.prog.cellsOf 23 = 1 := by kernel_rfl
theorem c_set : Tryd.prog.cellsOf 25 = 4 := by kernel_rfl
theorem u64_wf {n : Int} (h : (Lit.int .u64 n).wf = true) : ∃ k : Nat, n = k ∧ k < 18446744073709551616 := by
 simp [Lit.wf, IntKind.min, IntKind.max, IntKind.signed, IntKind.bits] at h
 exact ⟨n.toNat, by omega, by omega⟩
section
variable {H : Type} {enc : TypeId × Value → H} {W : World}
theorem set_of {fuel : Nat} {cs : List Value} {x : DataW H × List MemPlace} (h : DataW.trod enc Tryd.prog W 0 (fun _ => true) true fuel 25 cs = some x) :
  ∃ s : S4, s.ok ∧ cs = [.int .u64 s.a, .int .u64 s.b, .int .u64 s.c, .int .u64 s.d] := by
 obtain ⟨xs, m, rfl, rfl, hl, hxl, hall⟩ := DataW.trod_array Tryd.underlying25 h
 rw [c_set] at hl
 obtain ⟨u0, u1, u2, u3, rfl⟩ : ∃ u0 u1 u2 u3, cs = [u0, u1, u2, u3] := by
  match cs, hl with
  | [u0, u1, u2, u3], _ => exact ⟨u0, u1, u2, u3, rfl⟩
 obtain ⟨x0, x1, x2, x3, rfl⟩ : ∃ x0 x1 x2 x3, xs = [x0, x1, x2, x3] := by
  match xs, hxl with
  | [x0, x1, x2, x3], _ => exact ⟨x0, x1, x2, x3, rfl⟩
 have f0 := hall 0 (by omega)
 have f1 := hall 1 (by omega)
 have f2 := hall 2 (by omega)
 have f3 := hall 3 (by omega)
 rw [c_u64] at f0 f1 f2 f3
 simp only [Nat.zero_mul, Nat.one_mul, Nat.reduceMul, List.drop_zero, List.drop_succ_cons, List.take_succ_cons, List.take_zero, List.getElem?_cons_zero, List.getElem?_cons_succ] at f0 f1 f2 f3
 obtain ⟨n0, e0, _, w0⟩ := DataW.trod_int Tryd.underlying23 f0
 obtain ⟨n1, e1, _, w1⟩ := DataW.trod_int Tryd.underlying23 f1
 obtain ⟨n2, e2, _, w2⟩ := DataW.trod_int Tryd.underlying23 f2
 obtain ⟨n3, e3, _, w3⟩ := DataW.trod_int Tryd.underlying23 f3
 injection e0 with e0
 injection e1 with e1
 injection e2 with e2
 injection e3 with e3
 subst e0; subst e1; subst e2; subst e3
 obtain ⟨k0, rfl, h0⟩ := u64_wf w0
 obtain ⟨k1, rfl, h1⟩ := u64_wf w1
 obtain ⟨k2, rfl, h2⟩ := u64_wf w2
 obtain ⟨k3, rfl, h3⟩ := u64_wf w3
 exact ⟨⟨k0, k1, k2, k3⟩, ⟨h0, h1, h2, h3⟩, rfl⟩
theorem set_val {v : Value} {d : DataW H} {ps : List MemPlace} (h : DataW.Trod enc Tryd.prog W 0 (fun _ => true) true 25 v d ps) :
  ∃ s : S4, s.ok ∧ Rel (Ev.start W) (encS s) v := by
 obtain ⟨fuel, hf⟩ := h
 obtain ⟨s, hs, hc⟩ := set_of hf
 refine ⟨s, hs, ?_⟩
 obtain ⟨us, rfl⟩ : ∃ us, v = .agg us := by
  cases v with
  | agg us => exact ⟨us, rfl⟩
  | _ => simp [Value.cells] at hc
 have hu : us.toList = [.int .u64 s.a, .int .u64 s.b, .int .u64 s.c, .int .u64 s.d] := hc
 refine .agg _ _ (by rw [← Array.length_toList, hu]; rfl) fun j x u hx hu' => ?_
 rw [← Array.getElem?_toList, hu] at hu'
 match j with
 | 0 => simp at hx hu'; subst hx; subst hu'; exact .int _ _
 | 1 => simp at hx hu'; subst hx; subst hu'; exact .int _ _
 | 2 => simp at hx hu'; subst hx; subst hu'; exact .int _ _
 | 3 => simp at hx hu'; subst hx; subst hu'; exact .int _ _
 | j + 4 => simp at hx
end
end Go.Proofs.YtjnkigaiogjfcaaDoor
end

