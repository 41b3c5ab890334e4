/- Data: a part of the proof that each law of this seat answers true at every input. No condition. -/
import Derived.Test.YtdnmpaielmfiiaaDoorRows
import Derived.KernelRfl
import Derived.Test.YtdnmpaielmfiiaaDoorEvH
import Derived.Test.YtdnmpaielmfiiaaDoorXa
set_option linter.unusedVariables false
set_option linter.unusedSimpArgs false
set_option maxRecDepth 20000
section
namespace Go.Proofs.YtdnmpaielmfiiaaDoor
open Go Go.Ev Go.RowKit Go.X7
theorem QkE : Tryd.prog.cellsOf 3 = 1 := by kernel_rfl
theorem Qq4 : Tryd.prog.cellsOf 22 = 1 := by kernel_rfl
theorem TY : Tryd.prog.cellsOf 24 = 4 := by kernel_rfl
theorem QjO : Tryd.prog.cellsOf 25 = 1 := by kernel_rfl
theorem QfF : Tryd.prog.cellsOf 27 = 6 := by kernel_rfl
theorem Qhq {H : Type} {α : Type} {w : α → Nat} {ws : List α → Nat} (h0 : ws [] = 0) (h1 : ∀ x l,ws (x :: l) = w x + ws l) : ∀ (l : List α) (ds : List (DataW H)),l.length = ds.length → (∀ (i : Nat) x d,l[i]? = some x → ds[i]? = some d → w x ≤ Rows.uptoBulk d) → ws l ≤ Rows.uptoBulkAll ds
 | [],ds,_,_ => by rw [h0]; omega
 | x :: l,[],h,_ => by simp at h
 | x :: l,d :: ds,h,hw => by
  have a := hw 0 x d rfl rfl
  have b := Qhq h0 h1 l ds (by simpa using h) fun i y e hy he => hw (i + 1) y e (by simpa using hy) (by simpa using he)
  rw [h1]
  simp only [Rows.uptoBulkAll]
  omega
theorem LK {n : Int} (h : (Lit.int .u64 n).wf = true) : ∃ k : Nat,n = k ∧ k < 18446744073709551616 := by
 simp [Lit.wf,IntKind.min,IntKind.max,IntKind.signed,IntKind.bits] at h
 exact ⟨n.toNat,by omega,by omega⟩
section
variable {H : Type} {enc : TypeId × Value → H} {W : World}
theorem QlA {fuel : Nat} {cs : List Value} {x : DataW H × List MemPlace} (h : DataW.trod enc Tryd.prog W 0 (fun _ => true) true fuel 24 cs = some x) :
  ∃ s : S4,s.ok ∧ cs = [.int .u64 s.a,.int .u64 s.b,.int .u64 s.c,.int .u64 s.d] := by
 obtain ⟨xs,m,rfl,rfl,hl,hxl,hall⟩ := DataW.trod_array Tryd.underlying24 h
 rw [TY] at hl
 obtain ⟨u0,u1,u2,u3,rfl⟩ : ∃ u0 u1 u2 u3,cs = [u0,u1,u2,u3] := by
  match cs,hl with
  | [u0,u1,u2,u3],_ => exact ⟨u0,u1,u2,u3,rfl⟩
 obtain ⟨x0,x1,x2,x3,rfl⟩ : ∃ x0 x1 x2 x3,xs = [x0,x1,x2,x3] := by
  match xs,hxl with
  | [x0,x1,x2,x3],_ => exact ⟨x0,x1,x2,x3,rfl⟩
 have f0 := hall 0 (by omega)
 have f1 := hall 1 (by omega)
 have f2 := hall 2 (by omega)
 have f3 := hall 3 (by omega)
 rw [Qq4] at f0 f1 f2 f3
 simp only [Nat.zero_mul,Nat.one_mul,Nat.reduceMul,List.drop_zero,List.drop_succ_cons,List.take_succ_cons,List.take_zero,List.getElem?_cons_zero,List.getElem?_cons_succ] at f0 f1 f2 f3
 obtain ⟨n0,e0,_,w0⟩ := DataW.trod_int Tryd.underlying22 f0
 obtain ⟨n1,e1,_,w1⟩ := DataW.trod_int Tryd.underlying22 f1
 obtain ⟨n2,e2,_,w2⟩ := DataW.trod_int Tryd.underlying22 f2
 obtain ⟨n3,e3,_,w3⟩ := DataW.trod_int Tryd.underlying22 f3
 injection e0 with e0
 injection e1 with e1
 injection e2 with e2
 injection e3 with e3
 subst e0; subst e1; subst e2; subst e3
 obtain ⟨k0,rfl,h0⟩ := LK w0
 obtain ⟨k1,rfl,h1⟩ := LK w1
 obtain ⟨k2,rfl,h2⟩ := LK w2
 obtain ⟨k3,rfl,h3⟩ := LK w3
 exact ⟨⟨k0,k1,k2,k3⟩,⟨h0,h1,h2,h3⟩,rfl⟩
theorem Qpk : ∀ (fuel : Nat) {cs : List Value} {x : DataW H × List MemPlace},DataW.trod enc Tryd.prog W 0 (fun _ => true) true fuel 27 cs = some x →
  ∃ e : X,RelC (Ev.start W) (Qc e) cs ∧ e.ok ∧ e.size ≤ Rows.uptoBulk x.1 := by
 intro fuel
 induction fuel using Nat.strongRecOn with
 | _ fuel ih =>
  intro cs x h
  obtain ⟨xs,n,rfl,rfl,hl,hxl,hall⟩ := DataW.trod_struct Tryd.underlying27 h
  rw [QfF] at hl
  obtain ⟨x0,x1,x2,rfl⟩ : ∃ x0 x1 x2,xs = [x0,x1,x2] := by
   match xs,hxl with
   | [x0,x1,x2],_ => exact ⟨x0,x1,x2,rfl⟩
  obtain ⟨u0,u1,u2,u3,u4,u5,rfl⟩ : ∃ u0 u1 u2 u3 u4 u5,cs = [u0,u1,u2,u3,u4,u5] := by
   match cs,hl with
   | [u0,u1,u2,u3,u4,u5],_ => exact ⟨u0,u1,u2,u3,u4,u5,rfl⟩
  have f0 := hall 0 _ rfl
  have f1 := hall 1 _ rfl
  have f2 := hall 2 _ rfl
  simp only [QkE,TY,QjO,List.drop_zero,List.drop_succ_cons,List.take_succ_cons,List.take_zero,List.getElem?_cons_zero,List.getElem?_cons_succ] at f0 f1 f2
  obtain ⟨k,e0,rfl,_⟩ := DataW.trod_int Tryd.underlying3 f0
  obtain ⟨s,hs,e1⟩ := QlA f1
  have hk : ∃ (ks : List X),Rel (Ev.start W) (.vs (Qw ks)) u5 ∧ oks ks ∧ Qj ks + 1 ≤ Rows.uptoBulk x2.1 := by
   rcases DataW.trod_slice Tryd.underlying25 f2 with ⟨e,rfl⟩ | ⟨a,len,cap,elems,rest,m,rfl,e,rfl,_,hlc,_,hel,hat,_,_⟩
   ·injection e with e
    subst e
    exact ⟨[],.vs [] none 0 0 0 0 0 (fun _ => .nilFunc) rfl (Nat.le_refl _) rfl (fun h => absurd rfl h) (by simp) (by simp) (by simp),trivial,by simp [Rows.uptoBulk,Qj]⟩
   ·injection e with e
    subst e
    rw [QfF] at hat
    obtain ⟨ks,hk1,hk2⟩ := Qg3 (Q := fun i (e : X) => ∃ cs,W.cells? 0 (a.add (i * 6)) 6 = some cs ∧ RelC (Ev.start W) (Qc e) cs ∧ e.ok ∧ ∀ d,(elems.map (·.1))[i]? = some d → e.size ≤ Rows.uptoBulk d) len fun i hi => by
     have hg := hat i hi
     have hge : i < elems.length := by omega
     rw [List.getElem?_eq_getElem hge] at hg
     obtain ⟨c1,hc1,hc2⟩ := Option.bind_eq_some_iff.1 hg
     obtain ⟨e,h1,h0,h2⟩ := ih m (by omega) hc2
     refine ⟨e,c1,hc1,h1,h0,fun d hd => ?_⟩
     rw [List.getElem?_map,List.getElem?_eq_getElem hge,Option.map_some,Option.some.injEq] at hd
     subst hd
     exact h2
    refine ⟨ks,Qju (sz := 6) (by rw [Kv]; simp [hk1]) hlc (by omega) fun i v hv => ?_,Uh.2 fun e he => ?_,?_⟩
    ·rw [Kv,List.getElem?_map] at hv
     obtain ⟨e,he,rfl⟩ := Option.map_eq_some_iff.1 hv
     obtain ⟨cs,h1,h2,_⟩ := hk2 i e he
     exact ⟨cs,h1,h2⟩
    ·obtain ⟨i,hi⟩ := List.getElem?_of_mem he
     obtain ⟨cs,_,_,h0,_⟩ := hk2 i e hi
     exact h0
    ·have := Qhq (w := X.size) (ws := Qj) rfl (fun _ _ => rfl) ks (elems.map (·.1)) (by simp; omega) fun i e d he hd => by
      obtain ⟨cs,_,_,_,h3⟩ := hk2 i e he
      exact h3 d hd
     simp only [Rows.uptoBulk]
     omega
  obtain ⟨ks,r5,o5,b5⟩ := hk
  injection e0 with e0
  injection e1 with e1 e2
  injection e2 with e2 e3
  injection e3 with e3 e4
  injection e4 with e4
  subst e0; subst e1; subst e2; subst e3; subst e4
  refine ⟨.mk k s ks,⟨rfl,fun j x u hx hu => ?_,BC _⟩,⟨hs,o5⟩,?_⟩
  ·simp only [Qc,Qan] at hx
   match j with
   | 0 => simp at hx hu; subst hx; subst hu; exact .int _ _
   | 1 => simp at hx hu; subst hx; subst hu; exact .int _ _
   | 2 => simp at hx hu; subst hx; subst hu; exact .int _ _
   | 3 => simp at hx hu; subst hx; subst hu; exact .int _ _
   | 4 => simp at hx hu; subst hx; subst hu; exact .int _ _
   | 5 => simp at hx hu; subst hx; subst hu; exact r5
   | j + 6 => simp at hx
  ·simp only [X.size,List.map_cons,List.map_nil,Rows.uptoBulk,Rows.uptoBulkAll]
   omega
theorem QoJ {v : Value} {d : DataW H} {ps : List MemPlace} (h : DataW.Trod enc Tryd.prog W 0 (fun _ => true) true 27 v d ps) :
  ∃ e : X,Rel (Ev.start W) (Qc e) v ∧ e.ok ∧ e.size ≤ Rows.uptoBulk d := by
 obtain ⟨fuel,hf⟩ := h
 obtain ⟨e,hr,ho,hs⟩ := Qpk _ hf
 refine ⟨e,?_,ho,hs⟩
 obtain ⟨k,s,ks⟩ := e
 obtain ⟨us,rfl⟩ : ∃ us,v = .agg us := by
  have := hr.len
  simp only [Qc,Qan] at this
  cases v with
  | agg us => exact ⟨us,rfl⟩
  | _ => simp [Value.cells] at this
 refine .agg _ _ ?_ fun j x u hx hu => hr.rel j x u hx ?_
 ·have := hr.len
  simp only [Qc,Qan] at this
  rw [← Array.length_toList]; exact this.symm
 ·show us.toList[j]? = some u
  rw [Array.getElem?_toList]; exact hu
end
end Go.Proofs.YtdnmpaielmfiiaaDoor
end
