/- EvC: a part of the proof that each law of this seat answers true at every input. No condition. -/
import Derived.Test.YthpghekebjadcaaEvB
set_option linter.unusedVariables false
set_option linter.unusedSimpArgs false
section
namespace Go.Ev
variable {T : ZT}
inductive RelD (S : Ctx) : List (FuncId × List V) → List Deferred → Prop
 | nil : RelD S [] []
 | cons (f vs cap args ds es) (h : RelA S vs (args ++ cap)) (r : RelD S ds es) : RelD S ((f,vs) :: ds) ({ target := .fn (.func f) cap,args } :: es)
theorem RelD.mono {S S' : Ctx} (hx : Ext S S') {ds : List (FuncId × List V)} {es : List Deferred} (h : RelD S ds es) : RelD S' ds es := by
 induction h with
 | nil => exact .nil
 | cons f vs cap args ds es h r ih => exact .cons f vs cap args ds es (h.mono hx) ih
def entry (u : Value) : List PanicEntry := [{ v := u,recovered := false }]
def MK (S : Ctx) : Out → Ending → Prop
 | .ret v,.returned u => Rel S v u
 | .pan v,.panicked ch => ∃ u,ch = entry u ∧ Rel S v u
 | _,_ => False
structure To (T : ZT) (base : Nat) (S S' : Ctx) (H' : Qa) (w' : World) : Prop where
 H : S'.H = H'
 w : S'.w = w'
 Z : S'.Z = S.Z
 ext : Ext S S'
 sim : Sim T S'
 bd : Bd base S.H H'
theorem To.trans {base : Nat} {S S' S'' : Ctx} {H' H'' : Qa} {w' w'' : World} (h : To T base S S' H' w') (k : To T base S' S'' H'' w'') : To T base S S'' H'' w'' :=
 ⟨k.H,k.w,k.Z.trans h.Z,h.ext.trans k.ext,k.sim,h.bd.trans (h.H ▸ k.bd) (by rw [← h.H]; exact h.ext.len)⟩
def Yb (T : ZT) (P : Program) (call : Qh) : Prop := ∀ f args H r H',call f args H = some (r,H') → ∀ (S : Ctx) (uargs : Array Value),S.H = H → Sim T S → RelA S args uargs →
 (callFunc f uargs).run P S.w = .ok (.enter f uargs) S.w ∧ Calls P f uargs S.w fun e w' => ∃ S',To T H.length S S' H' w' ∧ MK S' r e
variable {P : Program} {S : Ctx} {t : List V} {a : Act} {o : Oper} {v : V}
theorem Qmo {ops : List Oper} {b : Bool} (ht : Zv S t a.tmps) (h : Yq ops t o = some b) : Region.wanted o (yielded ops.toArray a.tmps) = b := by
 unfold Yq at h
 unfold Region.wanted
 split at h
 ·rename_i hg; simp at h; simp [hg,h]
 ·rename_i j want hg
  simp only [hg]
  split at h
  ·rename_i hd
   simp at h
   subst h
   have : yielded ops.toArray a.tmps j = none := by simp [yielded,hd]
   simp [this]
  ·rename_i d hd
   have hr := ht.2 d
   have hy : yielded ops.toArray a.tmps j = match a.tmps[d]? with | some (.bool b) => some b | _ => none := by
    simp only [yielded]
    have : (ops.toArray[j]?).bind (·.dst) = some d := by simpa using hd
    rw [this]; rfl
   split at h
   ·rename_i b' hb
    simp at h
    subst h
    rw [hb] at hr
    have e := Ri hr
    have : a.tmps[d]? = some (.bool b') := by
     cases q : a.tmps[d]? with
     | none => rw [Array.getD_eq_getD_getElem?,q] at e; simp [undef] at e
     | some u => rw [Array.getD_eq_getD_getElem?,q] at e; simpa using e
    rw [hy,this]; simp
   ·rename_i vs hb
    simp at h
    subst h
    rw [hb] at hr
    have : (match a.tmps[d]? with | some (.bool b) => some b | _ => none : Option Bool) = none := by
     cases q : a.tmps[d]? with
     | none => rfl
     | some u =>
      rw [Array.getD_eq_getD_getElem?,q] at hr
      cases hr; rfl
    rw [hy,this]; simp
   ·simp at h
theorem P5 {S : Ctx} {t : List V} {a : Act} (ht : Zv S t a.tmps) (dst : Option Tmp) {v : V} {u : Value} (h : Rel S v u) : Zv S (Z8 t dst v) (a.put dst u).tmps := by
 cases dst with
 | none => exact ht
 | some d =>
  refine ⟨by simpa [Z8,Act.put] using ht.1,fun i => ?_⟩
  simp only [Z8,Act.put,Array.getD_eq_getD_getElem?,List.getD_eq_getElem?_getD]
  rw [List.getElem?_set,Array.getElem?_setIfInBounds]
  by_cases e : d = i
  ·subst e
   simp only [if_true]
   by_cases c : d < t.length
   ·have := ht.1
    rw [if_pos c,if_pos (Nat.lt_of_lt_of_le c ht.1)]; simpa using h
   ·rw [if_neg c]; exact .junk _
  ·rw [if_neg e,if_neg e]
   have := ht.2 i
   simpa only [Array.getD_eq_getD_getElem?,List.getD_eq_getElem?_getD] using this
theorem PM (S : Ctx) : Rel S (.tup []) undef := .tup [] #[] rfl fun j x u h => by simp at h
def Jy (P : Program) (ops : List Oper) (o : Oper) (K : Act → World → Prop) (Q : Exit → Act → World → Prop) (a : Act) (w : World) : Prop :=
 if Region.wanted o (yielded ops.toArray a.tmps) = true then o.wp P a w K Q ∨ (o.asks P a w ∧ LetsOut Q) else K (a.put o.dst undef) w
theorem UK {base : Nat} {own : Bool} {call : Qh} (hcall : Yb T P call) {ops : List Oper} (hS : Sim T S) (hb : base ≤ S.H.length) (ht : Zv S t a.tmps) {r : Out} {H' : Qa}
  (h : Zn P base own call ops o t S.H = some (r,H')) {K : Act → World → Prop} {Q : Exit → Act → World → Prop}
  (hret : ∀ v,r = .ret v → ∀ S' u,To T base S S' H' S'.w → Rel S' v u → K (a.put o.dst u) S'.w)
  (hpan : ∀ v,r = .pan v → ∀ S' u,To T base S S' H' S'.w → Rel S' v u → Q (.panic (entry u)) a S'.w) :
  Jy P ops o K Q a S.w := by
 unfold Zn at h
 cases hw : Yq ops t o with
 | none => simp [hw] at h
 | some b =>
  have hwr := Qmo ht hw
  simp only [hw,Option.bind_some] at h
  unfold Jy
  cases b with
  | false =>
   simp at h
   obtain ⟨rfl,rfl⟩ := h
   rw [if_neg (by simp [hwr])]
   exact hret _ rfl S undef ⟨rfl,rfl,rfl,Ext.refl S,hS,Bd.refl _ _⟩ (PM S)
  | true =>
   rw [if_pos hwr]
   refine .inl ?_
   unfold Oper.wp
   simp only [if_true] at h
   split at h
   ·-- pure
    cases he : ZR P t o.op with
    | none => simp [he] at h
    | some v =>
     simp [he] at h
     obtain ⟨rfl,rfl⟩ := h
     obtain ⟨u,hu,hr⟩ := Qnc (P := P) ht he
     rw [hr S.w]
     exact hret v rfl S u ⟨rfl,rfl,rfl,Ext.refl S,hS,Bd.refl _ _⟩ hu
   ·-- lit
    cases he : KN P t o.op with
    | none => simp [he] at h
    | some v =>
     simp [he] at h
     obtain ⟨rfl,rfl⟩ := h
     obtain ⟨w',u,hg,hr,hu⟩ := QsJ hS ht he
     rw [hr]
     exact hret v rfl (S.at w') u ⟨rfl,rfl,rfl,W9 hS hg,Nb hS hg,Bd.refl _ _⟩ hu
   ·-- load
    cases he : ZZ P t S.H o.op with
    | none => simp [he] at h
    | some v =>
     simp [he] at h
     obtain ⟨rfl,rfl⟩ := h
     obtain ⟨u,hu,hr⟩ := Qsj hS ht he
     rw [hr]
     exact hret v rfl S u ⟨rfl,rfl,rfl,Ext.refl S,hS,Bd.refl _ _⟩ hu
   ·-- eff
    cases he : Z6 P base t S.H o.op with
    | none => simp [he] at h
    | some p =>
     obtain ⟨v,H1⟩ := p
     simp [he] at h
     obtain ⟨rfl,rfl⟩ := h
     obtain ⟨S',r,s1,s2,s3,s4,s5,s6,s7⟩ := Qai hS ht he
     rw [s5]
     rcases s6 with ⟨u,rfl,hu⟩ | ⟨rfl,rfl⟩
     ·exact hret v rfl S' u ⟨s1,rfl,s2,s3,s4,s7⟩ hu
     ·exact hret _ rfl S' undef ⟨s1,rfl,s2,s3,s4,s7⟩ (PM S')
   ·-- fresh
    cases he : Z6 P base t S.H o.op with
    | none => simp [he] at h
    | some p =>
     obtain ⟨v,H1⟩ := p
     simp [he] at h
     obtain ⟨rfl,rfl⟩ := h
     obtain ⟨S',r,s1,s2,s3,s4,s5,s6,s7⟩ := Qai hS ht he
     rw [s5]
     rcases s6 with ⟨u,rfl,hu⟩ | ⟨rfl,rfl⟩
     ·exact hret v rfl S' u ⟨s1,rfl,s2,s3,s4,s7⟩ hu
     ·exact hret _ rfl S' undef ⟨s1,rfl,s2,s3,s4,s7⟩ (PM S')
   ·-- call
    cases he : WQ t o.op with
    | none => simp [he] at h
    | some p =>
     obtain ⟨f,args⟩ := p
     simp only [he,Option.bind_some] at h
     unfold WQ at he
     split at he
     ·rename_i c ho
      split at he
      ·rename_i fo hc
       have hf := ZL ht fo
       split at he
       ·rename_i g cap hg
        simp at he
        obtain ⟨rfl,rfl⟩ := he
        rw [hg] at hf
        generalize hfu : a.eval fo = fu at hf
        cases hf with
        | fn _ _ us hl h2 =>
        have hA := (Gy ht c.args).append (⟨hl,h2⟩ : RelA S cap us)
        obtain ⟨c1,c2⟩ := hcall _ _ _ _ _ h S _ rfl hS hA
        have hrun : (execOp a.eval o).run P S.w = .ok (.enter g (c.args.map a.eval ++ us)) S.w := by
         simp only [execOp,ho,resolve,hc,hfu,Deferred.ofValue,Sem.run_bind,Sem.run_pure,Result.andThen_ok,invoke,Array.empty_append]
         exact c1
        rw [hrun]
        show Calls P g _ S.w _
        refine c2.mono fun e w' he => ?_
        obtain ⟨S',hto,hout⟩ := he
        have hto' : To T base S S' H' S'.w := ⟨hto.H,rfl,hto.Z,hto.ext,hto.sim,hto.bd.mono hb⟩
        have hww := hto.w
        subst hww
        cases r with
        | ret v =>
         cases e with
         | returned u => exact hret v rfl S' u hto' hout
         | _ => exact hout.elim
        | pan v =>
         cases e with
         | panicked ch =>
          obtain ⟨u,rfl,hu⟩ := hout
          exact hpan v rfl S' u hto' hu
         | _ => exact hout.elim
       ·simp at he
      ·simp at he
     ·simp at he
   ·-- panic
    cases he : Wi t o.op with
    | none => simp [he] at h
    | some v =>
     simp [he] at h
     obtain ⟨rfl,rfl⟩ := h
     have key : ∃ u,Rel S v u ∧ (execOp a.eval o).run P S.w = .halt (.panic u) S.w := by
      unfold Wi at he
      split at he
      ·rename_i x ho
       have hx := ZL ht x
       split at he
       ·rename_i ty y hy
        simp at he; subst he
        rw [hy] at hx
        generalize hxu : a.eval x = u at hx
        have h0 := hx
        cases hx
        exact ⟨_,h0,by simp [execOp,ho,hxu,Instr.panic]⟩
       ·simp at he
      ·rename_i c ho
       split at he
       ·rename_i hc
        split at he
        ·rename_i x hx0
         have hx := ZL ht x
         split at he
         ·rename_i ty y hy
          simp at he; subst he
          rw [hy] at hx
          generalize hxu : a.eval x = u at hx
          have h0 := hx
          have hx0' : (c.args.map a.eval)[0]? = some u := by simp [hx0,hxu]
          cases hx
          refine ⟨_,h0,?_⟩
          obtain ⟨bs,e'⟩ := Uz (P := P) (a := a) ho hc S.w
          rw [e']
          simp only [builtin,Array.getD_eq_getD_getElem?,hx0']
          simp [Instr.panic]
         ·simp at he
        ·simp at he
       ·simp at he
      ·simp at he
     obtain ⟨u,hu,hr⟩ := key
     rw [hr]
     exact hpan v rfl S u ⟨rfl,rfl,rfl,Ext.refl S,hS,Bd.refl _ _⟩ hu
   ·simp at h
   ·simp at h
end Go.Ev
end
section
namespace Go.Ev
variable {T : ZT}
variable {P : Program}
def Lq (S : Ctx) : Ex → Exit → Prop
 | .normal,.normal => True
 | .exit i,.exit j => i = j
 | .ret,.ret => True
 | .pan v,.panic ch => ∃ u,ch = entry u ∧ Rel S v u
 | _,_ => False
def YJ (T : ZT) (base : Nat) (S0 : Ctx) (e : Ex) (st : St) : Exit → Act → World → Prop := fun e' a' w' =>
 ∃ S',To T base S0 S' st.H w' ∧ Lq S' e e' ∧ Zv S' st.t a'.tmps ∧ RelD S' st.d a'.defers
structure At (T : ZT) (base : Nat) (S0 S : Ctx) (st : St) (a : Act) (w : World) : Prop where
 to : To T base S0 S st.H w
 t : Zv S st.t a.tmps
 d : RelD S st.d a.defers
 b : base ≤ S0.H.length
theorem At.le {base : Nat} {S0 S : Ctx} {st : St} {a : Act} {w : World} (h : At T base S0 S st a w) : base ≤ S.H.length := Nat.le_trans h.b h.to.ext.len
theorem At.normal {base : Nat} {S0 S : Ctx} {st : St} {a : Act} {w : World} (h : At T base S0 S st a w) : YJ T base S0 .normal st .normal a w := ⟨S,h.to,trivial,h.t,h.d⟩
theorem put_defers (a : Act) (dst : Option Tmp) (u : Value) : (a.put dst u).defers = a.defers := by cases dst <;> rfl
theorem YJ.of {base : Nat} {S0 S : Ctx} {st : St} {a : Act} {w : World} (h : At T base S0 S st a w) {e : Ex} {e' : Exit} (hx : Lq S e e') : YJ T base S0 e st e' a w := ⟨S,h.to,hx,h.t,h.d⟩
theorem Qor {ops : Array Oper} {Q : Exit → Act → World → Prop} {i : Nat} {rest : List Nat} {o : Oper} (ho : ops[i]? = some o) {a : Act} {w : World}
  (h : Jy P ops.toList o (wpOps P ops Q rest) Q a w) : wpOps P ops Q (i :: rest) a w := by
 simp only [wpOps,ho]
 simpa [Jy] using h
theorem QsS {o : Oper} {c : Call} {f : Operand} {g : FuncId} {us : Array Value} {a : Act} (ho : o.op = .defer c) (hc : c.callee = .value f) (hf : a.eval f = .func (.func g) #[] us) (w : World) :
  (execOp a.eval o).run P w = .ok (.defer { target := .fn (.func g) us,args := c.args.map a.eval }) w := by
 simp [execOp,ho,resolve,hc,hf,Deferred.ofValue]
theorem DI {base : Nat} {own : Bool} {call : Qh} (hcall : Yb T P call) {ops : List Oper} {S0 : Ctx} : ∀ (l pre : List Oper) (st : St) {e : Ex} {st' : St} {S : Ctx} {a : Act} {w : World},ops = pre ++ l →
  At T base S0 S st a w → JS P base own call ops l st = some (e,st') → wpOps P ops.toArray (YJ T base S0 e st') (List.range' pre.length l.length) a w
 | [],pre,st,e,st',S,a,w,hp,hat,h => by
  simp [JS] at h
  obtain ⟨rfl,rfl⟩ := h
  exact hat.normal
 | o :: rest,pre,st,e,st',S,a,w,hp,hat,h => by
  have ho : ops.toArray[pre.length]? = some o := by simp [hp]
  simp only [List.length_cons,List.range'_succ]
  refine Qor ho ?_
  have hpre : ops = (pre ++ [o]) ++ rest := by simp [hp]
  have hlen : (pre ++ [o]).length = pre.length + 1 := by simp
  have hw0 := hat.to.w
  subst hw0
  simp only [JS] at h
  split at h
  ·-- deferred
   rename_i hk
   split at h
   ·rename_i hgn
    cases hd : Nq st.t o.op with
    | none => simp [hd] at h
    | some r =>
     simp only [hd,Option.bind_some] at h
     unfold Nq at hd
     split at hd
     ·rename_i c hop
      split at hd
      ·rename_i f hc
       have hf := ZL hat.t f
       split at hd
       ·rename_i g cap hg
        simp at hd
        subst hd
        rw [hg] at hf
        generalize hfu : a.eval f = fu at hf
        cases hf with
        | fn _ _ us hl h2 =>
        unfold Jy
        have hwn : Region.wanted o (yielded ops.toArray.toList.toArray a.tmps) = true := by
         have : o.guard = none := by simpa using hgn
         simp [Region.wanted,this]
        rw [if_pos hwn]
        refine .inl ?_
        unfold Oper.wp
        rw [QsS hop hc hfu]
        show wpOps P ops.toArray _ _ (({ a with defers := _ :: a.defers } : Act).put o.dst undef) S.w
        have := DI hcall rest (pre ++ [o]) { t := Z8 st.t o.dst (.tup []),H := st.H,d := (g,YT st.t c.args.toList ++ cap) :: st.d } hpre (S := S) (a := ({ a with defers := { target := .fn (.func g) us,args := c.args.map a.eval } :: a.defers } : Act).put o.dst undef) (w := S.w)
         ⟨hat.to,P5 (a := { a with defers := { target := .fn (.func g) us,args := c.args.map a.eval } :: a.defers }) hat.t o.dst (PM S),by
          rw [put_defers]; exact .cons _ _ _ _ _ _ ((Gy hat.t c.args).append ⟨hl,h2⟩) hat.d,hat.b⟩ h
        rw [hlen] at this
        exact this
       ·simp at hd
      ·simp at hd
     ·simp at hd
   ·simp at h
  ·cases ho1 : Zn P base own call ops o st.t st.H with
   | none => simp [ho1] at h
   | some r =>
    obtain ⟨r,H1⟩ := r
    simp only [ho1,Option.bind_some] at h
    have hH := hat.to.H
    rw [← hH] at ho1
    refine UK (P := P) hcall hat.to.sim hat.le hat.t (by simpa using ho1) (fun v hv S' u hto hu => ?_) (fun v hv S' u hto hu => ?_)
    ·subst hv
     have := DI hcall rest (pre ++ [o]) { t := Z8 st.t o.dst v,H := H1,d := st.d } hpre (S := S') (a := a.put o.dst u) (w := S'.w)
      ⟨hat.to.trans hto,P5 (hat.t.mono hto.ext) o.dst hu,by rw [put_defers]; exact hat.d.mono hto.ext,hat.b⟩ h
     rw [hlen] at this
     exact this
    ·subst hv
     simp at h
     obtain ⟨rfl,rfl⟩ := h
     exact ⟨S',hat.to.trans hto,⟨u,rfl,hu⟩,hat.t.mono hto.ext,hat.d.mono hto.ext⟩
end Go.Ev
end
section
namespace Go.Ev
def Dir (ops : List Oper) (i j : Nat) : Prop := ∃ o e,ops[i]? = some o ∧ e ∈ o.after ∧ Region.binds .any e = true ∧ e.on = j
inductive Aft (ops : List Oper) : Nat → Nat → Prop
 | dir (i j) (h : Dir ops i j) : Aft ops i j
 | step (i k j) (h : Dir ops i k) (r : Aft ops k j) : Aft ops i j
theorem T2 (ops : List Oper) (i : Nat) (acc : List Nat) (hacc : ∀ k j,(acc.getD k 0).testBit j = true → Aft ops k j) :
  ∀ (es : List Edge) (s : Nat),(∀ e ∈ es,Region.binds .any e = true → Dir ops i e.on) → (∀ j,s.testBit j = true → Aft ops i j) →
   ∀ j,(es.foldl (fun s e => if Region.binds .any e then s ||| 2 ^ e.on ||| acc.getD e.on 0 else s) s).testBit j = true → Aft ops i j
 | [],s,_,hs,j,h => hs j h
 | e :: es,s,he,hs,j,h => by
  refine T2 ops i acc hacc es _ (fun e' h' => he e' (List.mem_cons_of_mem _ h')) (fun j hj => ?_) j h
  dsimp only at hj
  split at hj
  ·rename_i hb
   have hd := he e (List.mem_cons_self) hb
   simp only [Nat.testBit_or,Bool.or_eq_true] at hj
   rcases hj with (hj | hj) | hj
   ·exact hs j hj
   ·rw [Nat.testBit_two_pow] at hj
    have : e.on = j := by simpa using hj
    subst this
    exact .dir _ _ hd
   ·exact .step _ _ _ hd (hacc _ _ hj)
  ·exact hs j hj
theorem QbX (ops : List Oper) : ∀ (rest : List Oper) (pre : List Oper) (acc : List Nat),ops = pre ++ rest → acc.length = pre.length → (∀ k j,(acc.getD k 0).testBit j = true → Aft ops k j) →
  ∀ k j,((Yv rest acc).getD k 0).testBit j = true → Aft ops k j
 | [],pre,acc,_,_,h,k,j,hk => h k j hk
 | o :: rest,pre,acc,hp,hl,h,k,j,hk => by
  refine QbX ops rest (pre ++ [o]) _ (by simp [hp]) (by simp [hl]) (fun k j hj => ?_) k j hk
  rw [List.getD_eq_getElem?_getD,List.getElem?_append] at hj
  split at hj
  ·exact h k j (by rw [List.getD_eq_getElem?_getD]; exact hj)
  ·by_cases e : k = acc.length
   ·subst e
    simp only [Nat.sub_self,List.getElem?_cons_zero,Option.getD_some] at hj
    rw [← Array.foldl_toList] at hj
    refine T2 ops acc.length acc h o.after.toList 0 (fun e he hb => ⟨o,e,?_,by simpa using he,hb,rfl⟩) (fun j hj => by simp at hj) j hj
    rw [hl,hp]; simp
   ·rw [List.getElem?_eq_none (by simp; omega)] at hj
    simp at hj
theorem Jc {ops : List Oper} {i j : Nat} (h : ahead (Yv ops []) i j = true) : Aft ops i j :=
 QbX ops ops [] [] rfl rfl (fun k j hj => by simp at hj) i j h
def Closed (ops : List Oper) (L : Nat → Bool) : Prop := ∀ i j,L i = true → Dir ops i j → L j = true
theorem Closed.aft {ops : List Oper} {L : Nat → Bool} (h : Closed ops L) {i j : Nat} (ha : Aft ops i j) : L i = true → L j = true := by
 induction ha with
 | dir i j hd => exact fun hi => h i j hi hd
 | step i k j hd _ ih => exact fun hi => ih (h i k hi hd)
def Ready (ops : List Oper) (L : Nat → Bool) (i : Nat) : Prop := L i = false ∧ (∃ o,ops[i]? = some o) ∧ ∀ j,Dir ops i j → L j = true
theorem Ready.aft {ops : List Oper} {L : Nat → Bool} (hc : Closed ops L) {i j : Nat} (h : Ready ops L i) (ha : Aft ops i j) : L j = true := by
 cases ha with
 | dir _ _ hd => exact h.2.2 j hd
 | step _ k _ hd r => exact hc.aft r (h.2.2 k hd)
theorem Ready.closed {ops : List Oper} {L : Nat → Bool} (hc : Closed ops L) {i : Nat} (h : Ready ops L i) : Closed ops (fun k => L k || k == i) := by
 intro a b ha hd
 simp only [Bool.or_eq_true,beq_iff_eq] at ha ⊢
 rcases ha with ha | rfl
 ·exact .inl (hc a b ha hd)
 ·exact .inl (h.2.2 b hd)
theorem B7 {f : Nat → Oper → Bool} : ∀ {l : List Oper} {k : Nat},Vs f k l = true → ∀ (j : Nat) (o : Oper),l[j]? = some o → f (k + j) o = true
 | [],k,_,j,o,h => by simp at h
 | x :: l,k,hw,j,o,h => by
  simp only [Vs,Bool.and_eq_true] at hw
  cases j with
  | zero => simp at h; subst h; exact hw.1
  | succ j => have := B7 hw.2 j o (by simpa using h); rwa [show k + (j + 1) = k + 1 + j by omega]
theorem Qa4 {P : Program} {own : Bool} {ops : List Oper} {ms : List Nat} : ∀ {l : List Oper} {k : Nat},G4 P own ops ms k l = true → ∀ (i j : Nat) (oi oj : Oper),i < j → l[i]? = some oi → l[j]? = some oj → Bp P own ops ms (k + i) oi (k + j) oj = true
 | [],k,_,i,j,oi,oj,_,h,_ => by simp at h
 | x :: l,k,hp,i,j,oi,oj,hij,hi,hj => by
  simp only [G4,Bool.and_eq_true] at hp
  cases j with
  | zero => omega
  | succ j =>
   cases i with
   | zero =>
    simp at hi; subst hi
    have := B7 hp.1 j oj (by simpa using hj)
    rwa [show k + (j + 1) = k + 1 + j by omega]
   | succ i =>
    have := Qa4 hp.2 i j oi oj (by omega) (by simpa using hi) (by simpa using hj)
    rwa [show k + (j + 1) = k + 1 + j by omega,show k + (i + 1) = k + 1 + i by omega]
theorem Qd1 : ∀ {l : List Oper} {k : Nat},NH k l = true → ∀ (j : Nat) (o : Oper),l[j]? = some o → ∀ e ∈ o.after,Region.binds .any e = true → e.on < k + j
 | [],k,_,j,o,h => by simp at h
 | x :: l,k,hw,j,o,h => by
  simp only [NH,Bool.and_eq_true] at hw
  cases j with
  | zero =>
   simp at h; subst h
   intro e he hb
   have := Array.all_eq_true_iff_forall_mem.1 hw.1 e he
   simp [hb] at this
   exact this
  | succ j => have := Qd1 hw.2 j o (by simpa using h); rwa [show k + (j + 1) = k + 1 + j by omega]
theorem V.beq_eq : ∀ {x y : V},V.beq x y = true → x = y := by
 have key : ∀ n (x y : V),SizeOf.sizeOf x < n → V.beq x y = true → x = y := by
  intro n
  induction n with
  | zero => intro x y h; omega
  | succ n ih =>
   have ihL : ∀ (xs ys : List V),SizeOf.sizeOf xs < n + 1 → JY xs ys = true → xs = ys := by
    intro xs
    induction xs with
    | nil => intro ys _ h; cases ys <;> simp_all [JY]
    | cons x xs ih2 =>
     intro ys hs h
     cases ys with
     | nil => simp [JY] at h
     | cons y ys =>
      simp only [JY,Bool.and_eq_true] at h
      simp only [List.cons.sizeOf_spec] at hs
      rw [ih x y (by omega) h.1,ih2 ys (by omega) h.2]
   intro x y hs h
   cases x <;> cases y <;> simp [V.beq] at h <;> first
    | rfl
    | (simp_all; done)
    | (simp at hs; rw [ihL _ _ (by omega) h])
    | (simp at hs; rw [h.1,ihL _ _ (by omega) h.2])
    | (simp at hs; rw [h.1,ih _ _ (by omega) h.2])
 exact fun {x y} h => key _ x y (Nat.lt_succ_self _) h
theorem same_eq {a : Option V} {v : V} (h : same a v = true) : a = some v := by
 unfold same at h
 split at h
 ·rw [V.beq_eq h]
 ·simp at h
variable {P : Program}
theorem FF {ms : List Nat} {j : Nat} {H : Qa} : ∀ {ls : List Ld},Kp P ms j H ls = true → ∀ l ∈ ls,ahead ms j l.i = true ∨ ZZ P l.t H l.op = some l.v
 | [],_,l,h => by simp at h
 | x :: ls,hk,l,h => by
  simp only [Kp,Bool.and_eq_true,Bool.or_eq_true] at hk
  rcases List.mem_cons.1 h with rfl | h
  ·exact hk.1.imp id same_eq
  ·exact FF hk.2 l h
theorem Cx {ms : List Nat} {i : Nat} {op : Op} {t : List V} {v : V} : ∀ {es : List (Nat × Qa)},Jo P ms i op t v es = true → ∀ e ∈ es,ahead ms i e.1 = true ∨ ZZ P t e.2 op = some v
 | [],_,l,h => by simp at h
 | x :: ls,hk,l,h => by
  obtain ⟨e,H⟩ := x
  simp only [Jo,Bool.and_eq_true,Bool.or_eq_true] at hk
  rcases List.mem_cons.1 h with rfl | h
  ·exact hk.1.imp id same_eq
  ·exact Cx hk.2 l h
def isL (P : Program) (own : Bool) (ops : List Oper) (W : Nat → Bool) (k : Nat) : Prop := W k = true ∧ ∃ o,ops[k]? = some o ∧ kindOf P own ops o.dst o.op = .load
def isE (P : Program) (own : Bool) (ops : List Oper) (W : Nat → Bool) (k : Nat) : Prop := W k = true ∧ ∃ o,ops[k]? = some o ∧ (kindOf P own ops o.dst o.op = .eff ∨ kindOf P own ops o.dst o.op = .call ∨ kindOf P own ops o.dst o.op = .fresh)
structure Seq where
 T : Nat → List V
 H : Nat → Qa
 R : Nat → V
 W : Nat → Bool
def Wm (ops : List Oper) (k : Nat) : Op := match ops[k]? with | some o => o.op | none => .ready 0
structure Runs (P : Program) (base : Nat) (own : Bool) (call : Qh) (ops : List Oper) (ms : List Nat) (ls : List Ld) (es : List (Nat × Qa)) (i m : Nat) (q : Seq) : Prop where
 step : ∀ k o,i ≤ k → k < m → ops[k]? = some o → Yq ops (q.T k) o = some (q.W k) ∧ Zn P base own call ops o (q.T k) (q.H k) = some (.ret (q.R k),q.H (k + 1)) ∧ q.T (k + 1) = Z8 (q.T k) o.dst (q.R k)
 ldOld : ∀ k,i ≤ k → k < m → isL P own ops q.W k → ∀ e ∈ es,ahead ms k e.1 = true ∨ ZZ P (q.T k) e.2 (Wm ops k) = some (q.R k)
 ld : ∀ k e,i ≤ e → e < k → k < m → isL P own ops q.W k → isE P own ops q.W e → ahead ms k e = true ∨ ZZ P (q.T k) (q.H e) (Wm ops k) = some (q.R k)
 efOld : ∀ e,i ≤ e → e < m → isE P own ops q.W e → ∀ l ∈ ls,ahead ms e l.i = true ∨ ZZ P l.t (q.H (e + 1)) l.op = some l.v
 ef : ∀ k e,i ≤ k → k < e → e < m → isL P own ops q.W k → isE P own ops q.W e → ahead ms e k = true ∨ ZZ P (q.T k) (q.H (e + 1)) (Wm ops k) = some (q.R k)
def Seq.put (q : Seq) (i : Nat) (t : List V) (H : Qa) (v : V) (b : Bool) : Seq :=
 { T := fun k => if k = i then t else q.T k,H := fun k => if k = i then H else q.H k,R := fun k => if k = i then v else q.R k,W := fun k => if k = i then b else q.W k }
theorem Px {own : Bool} {ops : List Oper} {q : Seq} {i k : Nat} {t : List V} {H : Qa} {v : V} {b : Bool} (h : k ≠ i) : isL P own ops (q.put i t H v b).W k ↔ isL P own ops q.W k := by simp [isL,Seq.put,h]
theorem LC {own : Bool} {ops : List Oper} {q : Seq} {i k : Nat} {t : List V} {H : Qa} {v : V} {b : Bool} (h : k ≠ i) : isE P own ops (q.put i t H v b).W k ↔ isE P own ops q.W k := by simp [isE,Seq.put,h]
theorem Runs.cons {base : Nat} {own : Bool} {call : Qh} {ops : List Oper} {ms : List Nat} {ls ls' : List Ld} {es es' : List (Nat × Qa)} {i m : Nat} {q : Seq} {o : Oper} {t : List V} {H : Qa} {v : V} {b : Bool}
  (h : Runs P base own call ops ms ls' es' (i + 1) m q) (him : i < m) (ho : ops[i]? = some o) (hw : Yq ops t o = some b) (he : Zn P base own call ops o t H = some (.ret v,q.H (i + 1))) (ht : q.T (i + 1) = Z8 t o.dst v)
  (hes : ∀ e ∈ es,e ∈ es') (hls : ∀ l ∈ ls,l ∈ ls')
  (hl : isL P own ops (q.put i t H v b).W i → (∃ l ∈ ls',l.i = i ∧ l.t = t ∧ l.op = o.op ∧ l.v = v) ∧ ∀ e ∈ es,ahead ms i e.1 = true ∨ ZZ P t e.2 o.op = some v)
  (hf : isE P own ops (q.put i t H v b).W i → (i,H) ∈ es' ∧ ∀ l ∈ ls,ahead ms i l.i = true ∨ ZZ P l.t (q.H (i + 1)) l.op = some l.v) :
  Runs P base own call ops ms ls es i m (q.put i t H v b) := by
 have hop : Wm ops i = o.op := by simp [Wm,ho]
 refine ⟨fun k o' h1 h2 h3 => ?_,fun k h1 h2 h3 e he' => ?_,fun k e h1 h2 h3 h4 h5 => ?_,fun e h1 h2 h3 l hl' => ?_,fun k e h1 h2 h3 h4 h5 => ?_⟩
 ·by_cases c : k = i
  ·subst c
   rw [ho] at h3; injection h3 with h3; subst h3
   simp only [Seq.put,if_true,Nat.succ_ne_self,if_false]
   exact ⟨hw,he,ht⟩
  ·have c2 : k + 1 ≠ i := by omega
   simp only [Seq.put,if_neg c,if_neg c2]
   exact h.step k o' (by omega) h2 h3
 ·by_cases c : k = i
  ·subst c
   simp only [Seq.put,if_true,hop]
   exact (hl h3).2 e he'
  ·simp only [Seq.put,if_neg c]
   exact h.ldOld k (by omega) h2 ((Px c).1 h3) e (hes e he')
 ·have ck : k ≠ i := by omega
  by_cases c : e = i
  ·subst c
   have := h.ldOld k (by omega) h3 ((Px ck).1 h4) _ (hf h5).1
   simp only [Seq.put,if_neg ck,if_true]
   exact this
  ·simp only [Seq.put,if_neg ck,if_neg c]
   exact h.ld k e (by omega) h2 h3 ((Px ck).1 h4) ((LC c).1 h5)
 ·by_cases c : e = i
  ·subst c
   have c2 : e + 1 ≠ e := by omega
   simp only [Seq.put,if_neg c2]
   exact (hf h3).2 l hl'
  ·have c2 : e + 1 ≠ i := by omega
   simp only [Seq.put,if_neg c2]
   exact h.efOld e (by omega) h2 ((LC c).1 h3) l (hls l hl')
 ·have ce : e ≠ i := by omega
  have ce2 : e + 1 ≠ i := by omega
  by_cases c : k = i
  ·subst c
   obtain ⟨l,l1,l2,l3,l4,l5⟩ := (hl h4).1
   have := h.efOld e (by omega) h3 ((LC ce).1 h5) l l1
   simp only [Seq.put,if_true,if_neg ce2,hop]
   rw [l2,l3,l4,l5] at this
   exact this
  ·simp only [Seq.put,if_neg c,if_neg ce2]
   exact h.ef k e (by omega) h2 h3 ((Px c).1 h4) ((LC ce).1 h5)
def Ends (P : Program) (base : Nat) (own : Bool) (call : Qh) (ops : List Oper) (ms : List Nat) (t0 : List V) (es : List (Nat × Qa)) (i m : Nat) (q : Seq) (d : List (FuncId × List V)) (e : Ex) (st' : St) : Prop :=
 (m = ops.length ∧ e = .normal ∧ st' = { t := q.T m,H := q.H m,d }) ∨
 ∃ v H' o es',ops[m]? = some o ∧ e = .pan v ∧ st' = { t := forget ops t0,H := H',d } ∧ Yq ops (q.T m) o = some true ∧ Zn P base own call ops o (q.T m) (q.H m) = some (.pan v,H') ∧
  JW P own ops ms m es' (m + 1) (ops.drop (m + 1)) (q.T m) (q.H m) = true ∧ (∀ x ∈ es,x ∈ es') ∧ ∀ k,i ≤ k → k < m → isE P own ops q.W k → (k,q.H k) ∈ es'
theorem QfS {base : Nat} {own : Bool} {call : Qh} {ops : List Oper} {ms : List Nat} {t0 : List V} : ∀ (rest : List Oper) (i : Nat) (ls : List Ld) (es : List (Nat × Qa)) (st : St) {e : Ex} {st' : St},ops.drop i = rest → i ≤ ops.length →
  Ko P base own t0 call ops ms i rest ls es st = some (e,st') →
  ∃ (m : Nat) (q : Seq),i ≤ m ∧ m ≤ ops.length ∧ q.T i = st.t ∧ q.H i = st.H ∧ Runs P base own call ops ms ls es i m q ∧ Ends P base own call ops ms t0 es i m q st.d e st'
 | [],i,ls,es,st,e,st',hd,hi,h => by
  simp [Ko] at h
  obtain ⟨rfl,rfl⟩ := h
  have hl : i = ops.length := by
   have := congrArg List.length hd
   simp at this; omega
  refine ⟨i,{ T := fun _ => st.t,H := fun _ => st.H,R := fun _ => .junk,W := fun _ => false },Nat.le_refl _,hi,rfl,rfl,⟨?_,?_,?_,?_,?_⟩,.inl ⟨hl,rfl,rfl⟩⟩ <;> intros <;> omega
 | o :: rest,i,ls,es,st,e,st',hd,hi,h => by
  have ho : ops[i]? = some o := by
   have := congrArg (fun l : List Oper => l[0]?) hd
   simpa using this
  have hlt : i < ops.length := (List.getElem?_eq_some_iff.1 ho).1
  have hd' : ops.drop (i + 1) = rest := by rw [← List.tail_drop,hd]; rfl
  simp only [Ko] at h
  cases hw : Yq ops st.t o with
  | none => simp [hw] at h
  | some b =>
   simp only [hw,Option.bind_some] at h
   cases h1 : Zn P base own call ops o st.t st.H with
   | none => simp [h1] at h
   | some r =>
    obtain ⟨r,H1⟩ := r
    simp only [h1,Option.bind_some] at h
    cases r with
    | pan v =>
     simp only at h
     split at h
     ·rename_i htl
      simp at h
      obtain ⟨rfl,rfl⟩ := h
      have hb : b = true := by
       cases b with
       | true => rfl
       | false => simp [Zn,hw] at h1
      subst hb
      refine ⟨i,{ T := fun _ => st.t,H := fun _ => st.H,R := fun _ => .junk,W := fun _ => false },Nat.le_refl _,hi,rfl,rfl,⟨?_,?_,?_,?_,?_⟩,.inr ⟨v,H1,o,es,ho,rfl,rfl,hw,h1,?_,fun x hx => hx,?_⟩⟩
      case _ => intros; omega
      case _ => intros; omega
      case _ => intros; omega
      case _ => intros; omega
      case _ => intros; omega
      case _ => rw [hd']; exact htl
      case _ => intros; omega
     ·simp at h
    | ret v =>
     simp only at h
     have go : ∀ (ls' : List Ld) (es' : List (Nat × Qa)),Ko P base own t0 call ops ms (i + 1) rest ls' es' { t := Z8 st.t o.dst v,H := H1,d := st.d } = some (e,st') →
       (∀ x ∈ es,x ∈ es') → (∀ l ∈ ls,l ∈ ls') →
       ((b = true ∧ kindOf P own ops o.dst o.op = .load) → (∃ l ∈ ls',l.i = i ∧ l.t = st.t ∧ l.op = o.op ∧ l.v = v) ∧ ∀ e ∈ es,ahead ms i e.1 = true ∨ ZZ P st.t e.2 o.op = some v) →
       ((b = true ∧ (kindOf P own ops o.dst o.op = .eff ∨ kindOf P own ops o.dst o.op = .call ∨ kindOf P own ops o.dst o.op = .fresh)) → (i,st.H) ∈ es' ∧ ∀ l ∈ ls,ahead ms i l.i = true ∨ ZZ P l.t H1 l.op = some l.v) →
       ∃ (m : Nat) (q : Seq),i ≤ m ∧ m ≤ ops.length ∧ q.T i = st.t ∧ q.H i = st.H ∧ Runs P base own call ops ms ls es i m q ∧ Ends P base own call ops ms t0 es i m q st.d e st' := by
      intro ls' es' hrun hes hls hl hf
      obtain ⟨m,q,m1,m2,m3,m4,m5,m6⟩ := QfS rest (i + 1) ls' es' _ hd' hlt hrun
      have lk : isL P own ops (q.put i st.t st.H v b).W i → b = true ∧ kindOf P own ops o.dst o.op = .load := by
       rintro ⟨w1,o',w2,w3⟩
       rw [ho] at w2; injection w2 with w2; subst w2
       exact ⟨by simpa [Seq.put] using w1,w3⟩
      have ek : isE P own ops (q.put i st.t st.H v b).W i → b = true ∧ (kindOf P own ops o.dst o.op = .eff ∨ kindOf P own ops o.dst o.op = .call ∨ kindOf P own ops o.dst o.op = .fresh) := by
       rintro ⟨w1,o',w2,w3⟩
       rw [ho] at w2; injection w2 with w2; subst w2
       exact ⟨by simpa [Seq.put] using w1,w3⟩
      have him : i ≠ m := by omega
      refine ⟨m,q.put i st.t st.H v b,by omega,m2,by simp [Seq.put],by simp [Seq.put],m5.cons (by omega) ho hw (by rw [m4]; exact h1) m3 hes hls (fun hh => hl (lk hh)) (fun hh => by rw [m4]; exact hf (ek hh)),?_⟩
      rcases m6 with ⟨p1,p2,p3⟩ | ⟨v',H',o',es'',p1,p2,p3,p4,p5,p6,p7,p8⟩
      ·exact .inl ⟨p1,p2,by simp only [Seq.put,if_neg (Ne.symm him)]; exact p3⟩
      ·refine .inr ⟨v',H',o',es'',p1,p2,p3,by simp only [Seq.put,if_neg (Ne.symm him)]; exact p4,by simp only [Seq.put,if_neg (Ne.symm him)]; exact p5,by simp only [Seq.put,if_neg (Ne.symm him)]; exact p6,fun x hx => p7 x (hes x hx),fun k k1 k2 k3 => ?_⟩
       by_cases c : k = i
       ·subst c
        simp only [Seq.put,if_true]
        exact p7 _ (hf (ek k3)).1
       ·simp only [Seq.put,if_neg c]
        exact p8 k (by omega) k2 ((LC c).1 k3)
     split at h
     ·rename_i hk
      split at h
      ·rename_i hok
       refine go _ _ h (fun x hx => hx) (fun l hl => List.mem_cons_of_mem _ hl) (fun _ => ⟨⟨_,List.mem_cons_self,rfl,rfl,rfl,rfl⟩,Cx hok⟩) (fun hh => ?_)
       cases b with
       | false => simp at hk
       | true => simp at hk; rcases hh.2 with c | c | c <;> rw [hk] at c <;> cases c
      ·simp at h
     ·rename_i hk
      split at h
      ·rename_i hok
       refine go _ _ h (fun x hx => List.mem_cons_of_mem _ hx) (fun l hl => hl) (fun hh => ?_) (fun _ => ⟨List.mem_cons_self,FF hok⟩)
       cases b with
       | false => simp at hk
       | true => simp at hk; rw [hk] at hh; cases hh.2
      ·simp at h
     ·rename_i hk
      split at h
      ·rename_i hok
       refine go _ _ h (fun x hx => List.mem_cons_of_mem _ hx) (fun l hl => hl) (fun hh => ?_) (fun _ => ⟨List.mem_cons_self,FF hok⟩)
       cases b with
       | false => simp at hk
       | true => simp at hk; rw [hk] at hh; cases hh.2
      ·simp at h
     ·rename_i hk
      split at h
      ·rename_i hok
       refine go _ _ h (fun x hx => List.mem_cons_of_mem _ hx) (fun l hl => hl) (fun hh => ?_) (fun _ => ⟨List.mem_cons_self,FF hok⟩)
       cases b with
       | false => simp at hk
       | true => simp at hk; rw [hk] at hh; cases hh.2
      ·simp at h
     ·rename_i hk1 hk2 hk3 hk4
      refine go _ _ h (fun x hx => hx) (fun l hl => hl) (fun hh => ?_) (fun hh => ?_)
      ·obtain ⟨rfl,hh⟩ := hh
       exact absurd hh hk1
      ·obtain ⟨rfl,hh⟩ := hh
       rcases hh with c | c | c
       ·exact absurd c hk2
       ·exact absurd c hk3
       ·exact absurd c hk4
end Go.Ev
end
section
namespace Go.Ev
variable {P : Program} {t t' : List V}
theorem Mm : ∀ {l : List Operand},(∀ x ∈ l,env t x = env t' x) → YT t l = YT t' l
 | [],_ => rfl
 | x :: l,h => by simp only [YT]; rw [h x List.mem_cons_self,Mm fun y hy => h y (List.mem_cons_of_mem _ hy)]
theorem FX : ∀ {l : List (Nat × Operand)},(∀ x ∈ l,env t x.2 = env t' x.2) → Y5 t l = Y5 t' l
 | [],_ => rfl
 | (i,x) :: l,h => by simp only [Y5]; rw [h (i,x) List.mem_cons_self,FX fun y hy => h y (List.mem_cons_of_mem _ hy)]
theorem RD {x : Option Operand} (h : ∀ y ∈ x,env t y = env t' y) : x.map (env t) = x.map (env t') := by
 cases x with
 | none => rfl
 | some y => simp [h y rfl]
theorem QnM {op : Op} (h : ∀ x ∈ op.operands,env t x = env t' x) : ZR P t op = ZR P t' op := by
 cases op <;> simp only [Op.operands] at h <;> simp only [ZR]
 case build ty ps => rw [FX fun x hx => h x.2 (by simp; exact ⟨x.1,by simpa using hx⟩)]
 case makeFunc fn first cap => rw [Mm fun x hx => h x (by simp at hx ⊢; exact .inr hx)]
 case slice ty x lo hi mx =>
  rw [h x (by simp),RD (x := lo) fun y hy => h y (by simp at hy ⊢; simp [hy]),RD (x := hi) fun y hy => h y (by simp at hy ⊢; simp [hy]),RD (x := mx) fun y hy => h y (by simp at hy ⊢; simp [hy])]
 case call c =>
  cases hc : c.callee with
  | value f => rfl
  | invoke r m => rfl
  | builtin b =>
   have ha : ∀ x ∈ c.args.toList,env t x = env t' x := fun x hx => h x (by simp [Call.operands,hc]; simpa using hx)
   cases b <;> simp only
   case len =>
    cases hty : c.argTypes[0]? with
    | none => rfl
    | some ty =>
    cases h0 : c.args[0]? with
    | none => rfl
    | some x => simp only; rw [ha x (by simpa using Array.mem_of_getElem? h0)]
   case min => rw [Mm ha]
   case max => rw [Mm ha]
 all_goals first
  | rfl
  | (simp_all; done)
theorem QqV {op : Op} {H : Qa} (h : ∀ x ∈ op.operands,env t x = env t' x) : ZZ P t H op = ZZ P t' H op := by
 cases op <;> simp only [Op.operands] at h <;> simp only [ZZ] <;> first
  | rfl
  | (simp_all; done)
theorem Qow {op : Op} (h : ∀ x ∈ op.operands,env t x = env t' x) : KN P t op = KN P t' op := by
 cases op <;> simp only [Op.operands] at h <;> simp only [KN]
 case buildSlice ty n ps => rw [FX fun x hx => h x.2 (by simp; exact ⟨x.1,by simpa using hx⟩)]
theorem Qlp {op : Op} {H : Qa} {base : Nat} (h : ∀ x ∈ op.operands,env t x = env t' x) : Z6 P base t H op = Z6 P base t' H op := by
 cases op <;> simp only [Op.operands] at h <;> simp only [Z6]
 case buildSlice ty n ps => rw [FX fun x hx => h x.2 (by simp; exact ⟨x.1,by simpa using hx⟩)]
 case makeMap ty r =>
  cases r with
  | none => rfl
  | some x => simp only; rw [h x (by simp)]
 case slice ty x lo hi mx =>
  rw [h x (by simp),RD (x := lo) fun y hy => h y (by simp at hy ⊢; simp [hy]),RD (x := hi) fun y hy => h y (by simp at hy ⊢; simp [hy]),RD (x := mx) fun y hy => h y (by simp at hy ⊢; simp [hy])]
 case call c =>
  cases hc : c.callee with
  | value f => rfl
  | invoke r m => rfl
  | builtin b =>
   have ha : ∀ x ∈ c.args.toList,env t x = env t' x := fun x hx => h x (by simp [Call.operands,hc]; simpa using hx)
   cases b <;> simp only
   case clear =>
    cases hty : c.argTypes[0]? with
    | none => rfl
    | some ty =>
    cases h0 : c.args[0]? with
    | none => rfl
    | some x => simp only; rw [ha x (by simpa using Array.mem_of_getElem? h0)]
   case copy =>
    cases hty : c.argTypes[0]? with
    | none => rfl
    | some ty =>
    cases h0 : c.args[0]? with
    | none => rfl
    | some x =>
     cases h1 : c.args[1]? with
     | none => rfl
     | some y => simp only; rw [ha x (by simpa using Array.mem_of_getElem? h0),ha y (by simpa using Array.mem_of_getElem? h1)]
   case append =>
    cases hty : c.argTypes[0]? with
    | none => rfl
    | some ty =>
    cases hty2 : c.argTypes[1]? with
    | none => rfl
    | some ty2 =>
    cases h0 : c.args[0]? with
    | none => rfl
    | some x =>
     cases h1 : c.args[1]? with
     | none => rfl
     | some y => simp only; rw [ha x (by simpa using Array.mem_of_getElem? h0),ha y (by simpa using Array.mem_of_getElem? h1)]
 all_goals first
  | rfl
  | (simp_all; done)
theorem Qsl {op : Op} (h : ∀ x ∈ op.operands,env t x = env t' x) : WQ t op = WQ t' op := by
 cases op <;> simp only [Op.operands] at h <;> simp only [WQ]
 case call c =>
  cases hc : c.callee with
  | value f =>
   simp only
   rw [h f (by simp [Call.operands,hc]),Mm fun x hx => h x (by simp [Call.operands,hc]; exact .inr (by simpa using hx))]
  | invoke r m => rfl
  | builtin b => rfl
theorem QkS {op : Op} (h : ∀ x ∈ op.operands,env t x = env t' x) : Wi t op = Wi t' op := by
 cases op <;> simp only [Op.operands] at h <;> simp only [Wi]
 case panic x => rw [h x (by simp)]
 case call c =>
  cases hc : c.callee with
  | value f => rfl
  | invoke r m => rfl
  | builtin b =>
   cases b <;> simp only
   case panic =>
    cases h0 : c.args[0]? with
    | none => rfl
    | some x => simp only; rw [h x (by simp [Call.operands,hc]; exact Array.mem_of_getElem? h0)]
theorem QmF {ops : List Oper} {o : Oper} (h : ∀ s ∈ Oper.looksAt ops.toArray o,t.getD s .junk = t'.getD s .junk) : Yq ops t o = Yq ops t' o := by
 unfold Yq
 cases hg : o.guard with
 | none => rfl
 | some gw =>
  obtain ⟨g,want⟩ := gw
  simp only
  cases hd : (ops[g]?).bind (·.dst) with
  | none => rfl
  | some d =>
   simp only
   rw [h d (by simp [Oper.looksAt,hg,hd])]
theorem Qqj {ops : Array Oper} {o : Oper} (h : ∀ s ∈ Oper.looksAt ops o,t.getD s .junk = t'.getD s .junk) : ∀ x ∈ o.op.operands,env t x = env t' x := by
 intro x hx
 cases x with
 | tmp s =>
  exact h s (by
   unfold Oper.looksAt
   exact List.mem_append_left _ (List.mem_filterMap.2 ⟨.tmp s,by simpa using hx,rfl⟩))
 | _ => rfl
theorem QaT {base : Nat} {own : Bool} {call : Qh} {ops : List Oper} {o : Oper} {H : Qa} (h : ∀ s ∈ Oper.looksAt ops.toArray o,t.getD s .junk = t'.getD s .junk) :
  Zn P base own call ops o t H = Zn P base own call ops o t' H := by
 have he := Qqj h
 unfold Zn
 rw [QmF h,QnM he,Qow he,QqV he,Qlp he,Qsl he,QkS he]
def WC (ks : List Nat) (t : List V) : List V := trim ks 0 t
theorem XO (ks : List Nat) : ∀ (t : List V) (k i : Nat),(trim ks k t)[i]? = (t[i]?).map fun v => if ks.contains (k + i) then v else .junk
 | [],k,i => by simp [trim]
 | v :: t,k,0 => by simp [trim]
 | v :: t,k,i + 1 => by simp [trim,XO ks t (k + 1) i,show k + 1 + i = k + (i + 1) by omega]
theorem M5 (ks : List Nat) : ∀ (t : List V) (k : Nat),(trim ks k t).length = t.length
 | [],k => rfl
 | v :: t,k => by simp [trim,M5 ks t (k + 1)]
theorem L0 (ks : List Nat) (t : List V) (i : Nat) : (WC ks t).getD i .junk = if ks.contains i then t.getD i .junk else .junk := by
 rw [List.getD_eq_getElem?_getD,WC,XO,List.getD_eq_getElem?_getD]
 cases t[i]? with
 | none => simp
 | some v => simp
end Go.Ev
end
section
namespace Go.Ev
variable {T : ZT}
variable {S S0 : Ctx} {w' : World} {o : Obj}
def Ctx.hold (S : Ctx) (w' : World) : Ctx := { S with Z := fun c => S.Z c ∨ c = S.w.heap.size,w := w' }
theorem CS (hS : Sim T S) (hp : Pushed S.w w' o) : Ext S (S.hold w') where
 size := by simp [Ctx.hold,hp.size]
 keep := fun c hc hf => ⟨hp.old hc,hf.1,fun h => h.elim hf.2 (fun h => absurd h (Nat.ne_of_lt hc))⟩
 zed := fun c hz => ⟨.inl hz,hp.old (hS.zlt c hz)⟩
 znew := fun c hz => hz.elim .inl fun h => .inr (by omega)
 len := Nat.le_refl _
 ver := fun i v' hi hv => ⟨v',hv,Nat.le_refl _,fun _ => ⟨rfl,fun sz ag cs cells e fr h1 h2 => ⟨cs,cells,e,fr,h1,by rw [show (S.hold w').w = w' from rfl,hp.old (Array.getElem?_eq_some_iff.1 h2).1]; exact h2,rfl⟩⟩⟩
 os := hp.os
 tape := hp.tape
 output := hp.output
theorem Qip (hS : Sim T S) (hp : Pushed S.w w' o) : Sim T (S.hold w') where
 blk := fun i b hb => by
  have h0 := hS.blk i b hb
  cases b with
  | dead => trivial
  | _ => exact h0.mono (CS hS hp) (hp.old (hS.lt (KB hb rfl)))
 inj := hS.inj
 zfree := fun i hi hz => by
  rcases hz with hz | hz
  ·exact hS.zfree i hi hz
  ·have := hS.lt (i := i) hi
   rw [show (S.hold w').ρ i = S.ρ i from rfl] at hz
   omega
 zlt := fun c hz => by
  simp only [Ctx.hold,hp.size]
  rcases hz with hz | hz
  ·have := hS.zlt c hz; omega
  ·omega
 tab := hS.tab.mono (CS hS hp).weak
def Ctx.commit (S : Ctx) (b : Blk) (p : Nat) : Ctx := { H := b :: S.H,ρ := upd S.ρ S.H.length p,Z := fun c => S.Z c ∧ c ≠ p,w := S.w }
theorem QlR {b : Blk} {p c : Nat} (hc : c ≠ p) : (S.commit b p).owned c → S.owned c := by
 rintro ⟨i,hi,he⟩
 by_cases e : i = S.H.length
 ·subst e; simp [Ctx.commit] at he; omega
 ·have hl : i < S.H.length := by have := KO hi; simp [Ctx.commit] at this; omega
  exact ⟨i,by simpa [Ctx.live,Ctx.commit,UG hl] using hi,by simpa [Ctx.commit,upd_ne _ _ e] using he⟩
theorem BX {b : Blk} {p : Nat} (hz : S.Z p) : Ext0 S (S.commit b p) where
 size := Nat.le_refl _
 keep := fun c hc hf => ⟨rfl,fun h => hf.1 (QlR (fun e => hf.2 (e ▸ hz)) h),fun h => hf.2 h.1⟩
 len := by simp [Ctx.commit]
 ver := fun i v' hi hv => by
  have hv0 : Zj S.H i = some v' := by simpa [Ctx.commit,UG hi] using hv
  refine ⟨v',hv0,Nat.le_refl _,fun _ => ⟨by simp [Ctx.commit,upd_ne _ _ (Nat.ne_of_lt hi)],fun sz ag cs cells e fr h1 h2 => ?_⟩⟩
  exact ⟨cs,cells,e,fr,by simpa [Ctx.commit,Ng b hi] using h1,h2,rfl⟩
theorem QoC {b : Blk} {p : Nat} (hS : Sim T S) (hz : S.Z p) (hb : J4 S p b) : Sim T (S.commit b p) where
 blk := fun i x hx => by
  by_cases e : i = S.H.length
  ·subst e
   simp [Ctx.commit] at hx
   subst hx
   have := hb.mono0 (BX (b := b) hz) rfl
   simpa [Ctx.commit] using this
  ·have hl : i < S.H.length := by have := VU hx; simp [Ctx.commit] at this; omega
   have hx0 : Q0 S.H i = some x := by simpa [Ctx.commit,Ng b hl] using hx
   have := (hS.blk i x hx0).mono0 (BX (b := b) hz) rfl
   simpa [Ctx.commit,upd_ne _ _ e] using this
 inj := fun i j hi hj he => by
  have li := KO hi
  have lj := KO hj
  simp [Ctx.commit] at li lj
  have old : ∀ k,(S.commit b p).live k → k ≠ S.H.length → S.live k ∧ (S.commit b p).ρ k = S.ρ k := fun k hk hne => by
   have lk := KO hk
   simp [Ctx.commit] at lk
   exact ⟨by simpa [Ctx.live,Ctx.commit,UG (show k < S.H.length by omega)] using hk,by simp [Ctx.commit,upd_ne _ _ hne]⟩
  by_cases ei : i = S.H.length <;> by_cases ej : j = S.H.length
  ·omega
  ·obtain ⟨a1,a3⟩ := old j hj ej
   rw [a3,ei] at he; simp [Ctx.commit] at he
   exact absurd (he ▸ hz) (hS.zfree j a1)
  ·obtain ⟨a1,a3⟩ := old i hi ei
   rw [a3,ej] at he; simp [Ctx.commit] at he
   exact absurd (he ▸ hz) (hS.zfree i a1)
  ·obtain ⟨a1,a3⟩ := old i hi ei
   obtain ⟨b1,b3⟩ := old j hj ej
   exact hS.inj i j a1 b1 (by rw [← a3,← b3]; exact he)
 zfree := fun i hi hz' => by
  by_cases e : i = S.H.length
  ·subst e
   simp [Ctx.commit] at hz'
  ·have lk := KO hi
   simp [Ctx.commit] at lk
   exact hS.zfree i (by simpa [Ctx.live,Ctx.commit,UG (show i < S.H.length by omega)] using hi) (by simpa [Ctx.commit,upd_ne _ _ e] using hz'.1)
 zlt := fun c hz => hS.zlt c hz.1
 tab := hS.tab.mono (BX hz)
theorem Qj8 {b : Blk} {p : Nat} (h0 : Ext S0 S) (hS0 : Sim T S0) (hz : S.Z p) (hp : S0.w.heap.size ≤ p) : Ext S0 (S.commit b p) where
 size := h0.size
 keep := fun c hc hf => by
  obtain ⟨a1,a2⟩ := h0.keep c hc hf
  exact ⟨a1,((BX (b := b) hz).keep c (Nat.lt_of_lt_of_le hc h0.size) a2).2⟩
 zed := fun c hc => ⟨⟨(h0.zed c hc).1,by have := hS0.zlt c hc; omega⟩,(h0.zed c hc).2⟩
 znew := fun c hc => h0.znew c hc.1
 len := Nat.le_trans h0.len (BX (b := b) hz).len
 ver := fun i v'' hi hv => by
  obtain ⟨v',b1,b2,b3⟩ := (BX (b := b) hz).ver i v'' (Nat.lt_of_lt_of_le hi h0.len) hv
  obtain ⟨v,a1,a2,a3⟩ := h0.ver i v' hi b1
  refine ⟨v,a1,Nat.le_trans a2 b2,fun e => ?_⟩
  have e1 : v = v' := by omega
  have e2 : v' = v'' := by omega
  obtain ⟨p1,p2⟩ := a3 e1
  obtain ⟨q1,q2⟩ := b3 e2
  refine ⟨q1.trans p1,fun sz ag cs cells el fr g1 g2 => ?_⟩
  obtain ⟨cs',cells',e',fr',r1,r2,r3⟩ := p2 sz ag cs cells el fr g1 g2
  subst e1
  rw [p1] at q2
  obtain ⟨cs2,cells2,el2,fr2,t1,t2,t3⟩ := q2 sz ag cs' cells' e' fr' r1 r2
  exact ⟨cs2,cells2,el2,fr2,t1,t2,t3.trans r3⟩
 os := h0.os
 tape := h0.tape
 output := h0.output
def Ctx.drop (S : Ctx) (Z : Nat → Prop) : Ctx := { S with Z := Z }
theorem Cd {Z : Nat → Prop} (hz : ∀ c,Z c → S.Z c) : Ext0 S (S.drop Z) :=
 ⟨Nat.le_refl _,fun c hc hf => ⟨rfl,hf.1,fun h => hf.2 (hz c h)⟩,Nat.le_refl _,fun i v' hi hv => ⟨v',hv,Nat.le_refl _,fun _ => ⟨rfl,fun sz ag cs cells e fr h1 h2 => ⟨cs,cells,e,fr,h1,h2,rfl⟩⟩⟩⟩
theorem Qi1 {Z : Nat → Prop} (hS : Sim T S) (hz : ∀ c,Z c → S.Z c) : Sim T (S.drop Z) where
 blk := fun i b hb => (hS.blk i b hb).mono0 (Cd hz) rfl
 inj := hS.inj
 zfree := fun i hi h => hS.zfree i hi (hz _ h)
 zlt := fun c h => hS.zlt c (hz c h)
 tab := hS.tab.mono (Cd hz)
theorem QmV (h0 : Ext S0 S) : Ext S0 (S.drop S0.Z) where
 size := h0.size
 keep := fun c hc hf => ⟨(h0.keep c hc hf).1,(h0.keep c hc hf).2.1,hf.2⟩
 zed := fun c hc => ⟨hc,(h0.zed c hc).2⟩
 znew := fun c hc => .inl hc
 len := h0.len
 ver := h0.ver
 os := h0.os
 tape := h0.tape
 output := h0.output
end Go.Ev
end
section
namespace Go.Ev
variable {P : Program} {own : Bool} {ops : List Oper} {ms : List Nat} {base : Nat} {call : Qh}
theorem TR {p : Nat} {es : List (Nat × Qa)} {H : Qa} : ∀ (rest : List Oper) (i : Nat) (t : List V),ops.drop i = rest → JW P own ops ms p es i rest t H = true →
  ∃ (q : Seq) (X : Nat → Bool),q.T i = t ∧ ∀ k o,i ≤ k → ops[k]? = some o →
   (X k = false → ahead ms k p = true ∧ q.T (k + 1) = q.T k) ∧
   (X k = true → Yq ops (q.T k) o = some (q.W k) ∧ Zn P base own call ops o (q.T k) H = some (.ret (q.R k),H) ∧ q.T (k + 1) = Z8 (q.T k) o.dst (q.R k) ∧
    (q.W k = true → (kindOf P own ops o.dst o.op = .pure ∨ kindOf P own ops o.dst o.op = .lit ∨ kindOf P own ops o.dst o.op = .load) ∧
     (kindOf P own ops o.dst o.op = .load → ∀ e ∈ es,ahead ms k e.1 = true ∨ ZZ P (q.T k) e.2 o.op = some (q.R k))))
 | [],i,t,hd,h => by
  refine ⟨⟨fun _ => t,fun _ => H,fun _ => .junk,fun _ => false⟩,fun _ => false,rfl,fun k o hk ho => ?_⟩
  have hl := congrArg List.length hd
  simp at hl
  have := (List.getElem?_eq_some_iff.1 ho).1
  omega
 | o :: rest,i,t,hd,h => by
  have ho : ops[i]? = some o := by
   have := congrArg (fun l : List Oper => l[0]?) hd
   simpa using this
  have hd' : ops.drop (i + 1) = rest := by rw [← List.tail_drop,hd]; rfl
  have go : ∀ (t' : List V) (x b : Bool) (v : V),JW P own ops ms p es (i + 1) rest t' H = true →
    ((x = false → ahead ms i p = true ∧ t' = t) ∧
    (x = true → Yq ops t o = some b ∧ Zn P base own call ops o t H = some (.ret v,H) ∧ t' = Z8 t o.dst v ∧
    (b = true → (kindOf P own ops o.dst o.op = .pure ∨ kindOf P own ops o.dst o.op = .lit ∨ kindOf P own ops o.dst o.op = .load) ∧
     (kindOf P own ops o.dst o.op = .load → ∀ e ∈ es,ahead ms i e.1 = true ∨ ZZ P t e.2 o.op = some v)))) →
    ∃ (q : Seq) (X : Nat → Bool),q.T i = t ∧ ∀ k o,i ≤ k → ops[k]? = some o →
   (X k = false → ahead ms k p = true ∧ q.T (k + 1) = q.T k) ∧
   (X k = true → Yq ops (q.T k) o = some (q.W k) ∧ Zn P base own call ops o (q.T k) H = some (.ret (q.R k),H) ∧ q.T (k + 1) = Z8 (q.T k) o.dst (q.R k) ∧
    (q.W k = true → (kindOf P own ops o.dst o.op = .pure ∨ kindOf P own ops o.dst o.op = .lit ∨ kindOf P own ops o.dst o.op = .load) ∧
     (kindOf P own ops o.dst o.op = .load → ∀ e ∈ es,ahead ms k e.1 = true ∨ ZZ P (q.T k) e.2 o.op = some (q.R k)))) := by
   intro t' x b v h1 h2
   obtain ⟨q,X,q1,q2⟩ := TR rest (i + 1) t' hd' h1
   refine ⟨q.put i t H v b,fun k => if k = i then x else X k,by simp [Seq.put],fun k o' hk hko => ?_⟩
   by_cases c : k = i
   ·subst c
    rw [ho] at hko; injection hko with hko; subst hko
    simp only [Seq.put,if_true,Nat.succ_ne_self,if_false,q1]
    exact h2
   ·have c2 : k + 1 ≠ i := by omega
    simp only [Seq.put,if_neg c,if_neg c2]
    exact q2 k o' (by omega) hko
  simp only [JW] at h
  split at h
  ·rename_i ha
   exact go t false false .junk h ⟨fun _ => ⟨ha,rfl⟩,fun h => by simp at h⟩
  ·split at h
   ·rename_i hw
    exact go _ true false (.tup []) h ⟨fun h => by simp at h,fun _ => ⟨hw,by simp [Zn,hw],rfl,fun h => by simp at h⟩⟩
   ·rename_i hw
    split at h
    ·rename_i hk
     split at h
     ·rename_i v hv
      exact go _ true true v h ⟨fun h => by simp at h,fun _ => ⟨hw,by simp [Zn,hw,hk,hv],rfl,fun _ => ⟨.inl hk,fun h => by rw [hk] at h; cases h⟩⟩⟩
     ·simp at h
    ·rename_i hk
     split at h
     ·rename_i v hv
      exact go _ true true v h ⟨fun h => by simp at h,fun _ => ⟨hw,by simp [Zn,hw,hk,hv],rfl,fun _ => ⟨.inr (.inl hk),fun h => by rw [hk] at h; cases h⟩⟩⟩
     ·simp at h
    ·rename_i hk
     split at h
     ·rename_i v hv
      simp only [Bool.and_eq_true] at h
      exact go _ true true v h.2 ⟨fun h => by simp at h,fun _ => ⟨hw,by simp [Zn,hw,hk,hv],rfl,fun _ => ⟨.inr (.inr hk),fun _ => Cx h.1⟩⟩⟩
     ·simp at h
    ·simp at h
   ·simp at h
structure Tr (P : Program) (base : Nat) (own : Bool) (call : Qh) (ops : List Oper) (ms : List Nat) (m : Nat) (q : Seq) (X : Nat → Bool) : Prop where
 step : ∀ k o,ops[k]? = some o → X k = true → Yq ops (q.T k) o = some (q.W k) ∧ Zn P base own call ops o (q.T k) (q.H k) = some (.ret (q.R k),q.H (k + 1)) ∧ q.T (k + 1) = Z8 (q.T k) o.dst (q.R k)
 skip : ∀ k o,ops[k]? = some o → X k = false → q.T (k + 1) = q.T k ∧ q.H (k + 1) = q.H k ∧ (k = m ∨ ahead ms k m = true)
 ld : ∀ k e,e < k → X k = true → X e = true → isL P own ops q.W k → isE P own ops q.W e → ahead ms k e = true ∨ ZZ P (q.T k) (q.H e) (Wm ops k) = some (q.R k)
 ef : ∀ k e,k < e → X k = true → X e = true → isL P own ops q.W k → isE P own ops q.W e → ahead ms e k = true ∨ ZZ P (q.T k) (q.H (e + 1)) (Wm ops k) = some (q.R k)
 mid : m < ops.length → X m = false
theorem QeF {t0 : List V} {st : St} {e : Ex} {st' : St} (h : Ko P base own t0 call ops ms 0 ops [] [] st = some (e,st')) :
  ∃ (m : Nat) (q : Seq) (X : Nat → Bool),q.T 0 = st.t ∧ q.H 0 = st.H ∧ m ≤ ops.length ∧ Tr P base own call ops ms m q X ∧
   ((m = ops.length ∧ e = .normal ∧ st' = { t := q.T ops.length,H := q.H ops.length,d := st.d }) ∨
    ∃ v H' o,ops[m]? = some o ∧ e = .pan v ∧ st' = { t := forget ops t0,H := H',d := st.d } ∧ Yq ops (q.T m) o = some true ∧ Zn P base own call ops o (q.T m) (q.H m) = some (.pan v,H')) := by
 obtain ⟨m,q,m1,m2,m3,m4,m5,m6⟩ := QfS ops 0 [] [] st rfl (Nat.zero_le _) h
 rcases m6 with ⟨p1,p2,p3⟩ | ⟨v,H',o,es',p1,p2,p3,p4,p5,p6,p7,p8⟩
 ·subst p1
  refine ⟨ops.length,q,fun _ => true,m3,m4,Nat.le_refl _,⟨fun k o ho _ => m5.step k o (Nat.zero_le _) (List.getElem?_eq_some_iff.1 ho).1 ho,fun k o _ h => by simp at h,fun k e hek _ _ hl he => ?_,fun k e hek _ _ hl he => ?_,fun h => by omega⟩,.inl ⟨rfl,p2,p3⟩⟩
  ·obtain ⟨_,o,ho,_⟩ := hl
   exact m5.ld k e (Nat.zero_le _) hek (List.getElem?_eq_some_iff.1 ho).1 ⟨‹_›,o,ho,‹_›⟩ he
  ·obtain ⟨_,o,ho,_⟩ := he
   exact m5.ef k e (Nat.zero_le _) hek (List.getElem?_eq_some_iff.1 ho).1 hl ⟨‹_›,o,ho,‹_›⟩
 ·obtain ⟨q',X',t1,t2⟩ := TR (base := base) (call := call) (ops.drop (m + 1)) (m + 1) (q.T m) rfl p6
  let Q : Seq := { T := fun k => if k ≤ m then q.T k else q'.T k,H := fun k => if k ≤ m then q.H k else q.H m,R := fun k => if k < m then q.R k else q'.R k,W := fun k => if k < m then q.W k else q'.W k }
  let Y : Nat → Bool := fun k => if k < m then true else if k = m then false else X' k
  have noE : ∀ k,Y k = true → isE P own ops Q.W k → k < m := fun k hY hE => by
   by_cases c : k < m
   ·exact c
   ·by_cases c2 : k = m
    ·simp [Y,c2] at hY
    ·obtain ⟨w,o',ho',hk⟩ := hE
     have hY' : X' k = true := by simpa [Y,c,c2] using hY
     have w' : q'.W k = true := by simpa [Q,c] using w
     have := ((t2 k o' (by omega) ho').2 hY').2.2.2 w'
     rcases this.1 with h | h | h <;> rcases hk with g | g | g <;> rw [h] at g <;> cases g
  refine ⟨m,Q,Y,by simp [Q,m3],by simp [Q,m4],m2,⟨fun k o' ho' hX => ?_,fun k o' ho' hX => ?_,fun k e hek hXk hXe hl he => ?_,fun k e hek hXk hXe hl he => ?_,fun _ => by simp [Y]⟩,.inr ⟨v,H',o,p1,p2,p3,by simpa [Q] using p4,by simpa [Q] using p5⟩⟩
  ·by_cases c : k < m
   ·have c1 : k ≤ m := by omega
    have c2 : k + 1 ≤ m := by omega
    simp only [Q,if_pos c,if_pos c1,if_pos c2]
    exact m5.step k o' (Nat.zero_le _) c ho'
   ·have c0 : k ≠ m := by rintro rfl; simp [Y] at hX
    have c1 : ¬ k ≤ m := by omega
    have c2 : ¬ k + 1 ≤ m := by omega
    simp only [Q,if_neg c,if_neg c1,if_neg c2]
    have := (t2 k o' (by omega) ho').2 (by simpa [Y,c,c0] using hX)
    exact ⟨this.1,this.2.1,this.2.2.1⟩
  ·by_cases c : k < m
   ·simp [Y,c] at hX
   ·by_cases c0 : k = m
    ·subst c0
     have c2 : ¬ k + 1 ≤ k := by omega
     simp only [Q,if_neg c2,Nat.le_refl,if_true]
     exact ⟨t1,trivial,.inl trivial⟩
    ·have c1 : ¬ k ≤ m := by omega
     have c2 : ¬ k + 1 ≤ m := by omega
     simp only [Q,if_neg c1,if_neg c2]
     have := (t2 k o' (by omega) ho').1 (by simpa [Y,c,c0] using hX)
     exact ⟨this.2,trivial,.inr this.1⟩
  ·have he' := noE e hXe he
   have hem : e ≤ m := by omega
   obtain ⟨w,o',ho',hk⟩ := hl
   by_cases c : k < m
   ·have c1 : k ≤ m := by omega
    simp only [Q,if_pos c,if_pos c1,if_pos hem] at w ⊢
    exact m5.ld k e (Nat.zero_le _) hek c ⟨w,o',ho',hk⟩ ⟨by simpa [Q,if_pos he'] using he.1,he.2⟩
   ·have c0 : k ≠ m := by rintro rfl; simp [Y] at hXk
    have c1 : ¬ k ≤ m := by omega
    simp only [Q,if_neg c,if_neg c1,if_pos hem] at w ⊢
    have hX' : X' k = true := by simpa [Y,c,c0] using hXk
    have hop : Wm ops k = o'.op := by simp [Wm,ho']
    rw [hop]
    exact (((t2 k o' (by omega) ho').2 hX').2.2.2 w).2 hk _ (p8 e (Nat.zero_le _) he' ⟨by simpa [Q,if_pos he'] using he.1,he.2⟩)
  ·have he' := noE e hXe he
   have c : k < m := by omega
   have c1 : k ≤ m := by omega
   have c2 : e + 1 ≤ m := by omega
   simp only [Q,if_pos c1,if_pos c2,if_pos c]
   exact m5.ef k e (Nat.zero_le _) hek he' ⟨by simpa [Q,if_pos c] using hl.1,hl.2⟩ ⟨by simpa [Q,if_pos he'] using he.1,he.2⟩
end Go.Ev
end
