/- EvB: a part of the proof that each law of this seat answers true at every input. No condition. -/
import Derived.Test.YthpghekebjadcaaEvA
import Derived.Laws.Append
import Derived.IntWalk
set_option linter.unusedVariables false
set_option linter.unusedSimpArgs false
section
namespace Go.Ev
variable {T : ZT}
variable {P : Program} {S : Ctx} {t : List V} {a : Act} {o : Oper} {v : V}
def Bnd (b : Nat) (H : Qa) : Prop := ∀ i x,i < b → Q0 H i = some x → YX x ≤ b
def Bd (base : Nat) (H H' : Qa) : Prop := True
theorem Bd.refl (base : Nat) (H : Qa) : Bd base H H := trivial
theorem Bd.trans {base : Nat} {H H' H'' : Qa} (h : Bd base H H') (k : Bd base H' H'') (hl : H.length ≤ H'.length) : Bd base H H'' := trivial
theorem Bd.mono {base base' : Nat} {H H' : Qa} (h : Bd base H H') (hb : base' ≤ base) : Bd base' H H' := trivial
theorem Bd.push (base : Nat) (H : Qa) (x : Blk) : Bd base H (x :: H) := trivial
theorem Bd.set {base i : Nat} {H : Qa} {x : Blk} (h : base ≤ i ∨ ∀ b,i < b → (∀ y,Q0 H i = some y → YX y ≤ b) → YX x ≤ b) : Bd base H (ZV H i x) := trivial
theorem JF {l : List V} {b : Nat} : Yd l ≤ b ↔ ∀ x ∈ l,x.maxRef ≤ b := by
 induction l with
 | nil => simp [Yd]
 | cons x l ih => simp [Yd,Nat.max_le,ih]
theorem Dl {l m : List V} {b : Nat} : Yd (l ++ m) ≤ b ↔ Yd l ≤ b ∧ Yd m ≤ b := by
 simp only [JF,List.mem_append]; exact ⟨fun h => ⟨fun x hx => h x (.inl hx),fun x hx => h x (.inr hx)⟩,fun h x hx => hx.elim (h.1 x) (h.2 x)⟩
theorem QdA (x : V) : Yd x.cells ≤ x.maxRef := by
 cases x <;> simp [V.cells,Yd,V.maxRef]
theorem LL {cs xs : List V} {off b : Nat} (h : Yd cs ≤ b) (k : Yd xs ≤ b) : Yd (splice cs off xs) ≤ b := by
 unfold splice
 rw [Dl,Dl]
 exact ⟨⟨JF.2 fun x hx => JF.1 h x (List.mem_of_mem_take hx),k⟩,JF.2 fun x hx => JF.1 h x (List.mem_of_mem_drop hx)⟩
theorem NW {base i m : Nat} (h : fits base i m = true) : base ≤ i ∨ m ≤ i + 1 := by simpa [fits] using h
def Y4 (T : ZT) (P : Program) (base : Nat) (S : Ctx) (a : Act) (o : Oper) (v : V) (H' : Qa) : Prop :=
 ∃ (S' : Ctx) (r : Next),S'.H = H' ∧ S'.Z = S.Z ∧ Ext S S' ∧ Sim T S' ∧ (execOp a.eval o).run P S.w = .ok r S'.w ∧ ((∃ u,r = .value u ∧ Rel S' v u) ∨ (r = .skip ∧ v = .tup [])) ∧ Bd base S.H H'
theorem RelA.cellsRel {S : Ctx} {cs : List V} {us : Array Value} (h : RelA S cs us) : Yx S cs us := fun j x hj => by
 have hlt : j < us.size := by rw [h.size]; exact (List.getElem?_eq_some_iff.1 hj).1
 exact ⟨us[j],by simp [hlt],h.get j x _ hj (by simp [hlt])⟩
theorem QoR (n : Nat) : Fj n (0,0) := fun j hj h => by have := h.2; simp at this
theorem Ry {ag : Bool} (n : Nat) : Un ag n (0,0) := ⟨QoR n,fun _ => rfl⟩
theorem Qcx (hS : Sim T S) {base : Nat} {cs : List V} {us : Array Value} {ty : TypeId} (h : RelA S cs us)
  (hr : (execOp a.eval o).run P S.w = .ok (.value (.pointer (some ⟨S.w.heap.size,0,none⟩))) (S.w.alloc (.cells us ty))) :
  Y4 T P base S a o (.ptr S.H.length 0 0) (.var cs :: S.H) := by
 have hp : Pushed S.w (S.w.alloc (.cells us ty)) (.cells us ty) := ⟨rfl,rfl,rfl,rfl⟩
 have hx := Mq hS (b := .var cs) hp
 refine ⟨S.push (.var cs) _,_,rfl,rfl,hx,Ew hS hp ⟨us,ty,(0,0),hp.new,h.size,Ry _,(h.mono hx).cellsRel⟩,hr,.inl ⟨_,rfl,?_⟩,Bd.push _ _ _⟩
 refine .ptr _ _ _ _ (by simp [Ctx.push]) fun v hv => ?_
 simp [Ctx.push,Zj,ZQ] at hv
 exact ⟨by omega,fun _ => by simp [Ctx.push]⟩
theorem Qko (hS : Sim T S) {base : Nat} {H' : Qa} {ty : TypeId} (ho : o.op = .alloc ty) (h : Z6 P base t S.H (.alloc ty) = some (v,H')) : Y4 T P base S a o v H' := by
 simp only [Z6] at h
 cases hz : ZO P ty with
 | none => simp [hz] at h
 | some z =>
  simp only [hz,Option.bind_some,newVar] at h
  split at h
  ·rename_i hsc
   simp at h
   obtain ⟨rfl,rfl⟩ := h
   obtain ⟨u,z1,z2⟩ := Wr hz S
   exact Qcx hS (ty := ty) (z1.cells hsc) (by simp [execOp,ho,Instr.alloc,z2,_root_.Go.newVar,newRow])
  ·simp at h
theorem Qqy (hS : Sim T S) (ht : Zv S t a.tmps) {base : Nat} {H' : Qa} {ty : TypeId} {x : Operand} (ho : o.op = .box ty x) (h : Z6 P base t S.H (.box ty x) = some (v,H')) : Y4 T P base S a o v H' := by
 simp only [Z6,newVar] at h
 split at h
 ·rename_i hsc
  simp at h
  obtain ⟨rfl,rfl⟩ := h
  exact Qcx hS (ty := ty) ((ZL ht x).cells hsc) (by simp [execOp,ho,Instr.box,_root_.Go.newVar,newRow])
 ·simp at h
theorem Eg (hS : Sim T S) {base sz n : Nat} {ag : Bool} {cs : List V} {cells : Array Value} {cap : Nat} {ty : TypeId} {fr : Nat × Nat} {w' : World} (hp : Pushed S.w w' (.cells cells ty fr))
  (hc : Yx S cs cells) (hsz : 0 < sz) (hl : cs.length = n * sz) (hcap : cells.size = cap * sz) (hn : n ≤ cap) (hfr : Un ag cells.size fr)
  (hr : (execOp a.eval o).run P S.w = .ok (.value (.slice (some ⟨S.w.heap.size,0,none⟩) n cap)) w') :
  Y4 T P base S a o (.rs S.H.length 0 sz 0 n) (.row 0 sz ag cs :: S.H) := by
 have hx := Mq hS (b := .row 0 sz ag cs) hp
 have hle : cs.length ≤ cells.size := by rw [hl,hcap]; exact Nat.mul_le_mul_right _ hn
 refine ⟨S.push (.row 0 sz ag cs) w',_,rfl,rfl,hx,Ew hS hp ⟨cells,ty,fr,hp.new,hle,hsz,hfr,hc.mono hx⟩,hr,.inl ⟨_,rfl,?_⟩,Bd.push _ _ _⟩
 refine .rs _ _ _ _ _ _ _ (by simp [Ctx.push]) hn fun v hv => ?_
 simp [Ctx.push,Zj,ZQ] at hv
 refine ⟨by omega,fun _ => ⟨ag,cs,cells,ty,fr,by simp [Ctx.push,← hv],?_,by simpa using hcap,fun _ => by simp [Ctx.push]⟩⟩
 simp only [Ctx.push,upd_same]
 exact hp.new
theorem QcT {z : List V} : ∀ (n : Nat) (k : Nat) (x : V),(Jd n z)[k]? = some x → k < n * z.length ∧ z[k % z.length]? = some x
 | 0,k,x,h => by simp [Jd] at h
 | n + 1,k,x,h => by
  simp only [Jd] at h
  rw [List.getElem?_append] at h
  by_cases c : k < z.length
  ·rw [if_pos c] at h
   refine ⟨?_,by rw [Nat.mod_eq_of_lt c]; exact h⟩
   rw [Nat.add_mul]; omega
  ·rw [if_neg c] at h
   obtain ⟨h1,h2⟩ := QcT n _ x h
   have h0 : 0 < z.length := by
    rcases Nat.eq_zero_or_pos z.length with e | e
    ·rw [e] at h1; simp at h1
    ·exact e
   refine ⟨by rw [Nat.add_mul]; omega,?_⟩
   rw [Nat.mod_eq,if_pos ⟨h0,by omega⟩]; exact h2
theorem QgJ (z : List V) : ∀ n,(Jd n z).length = n * z.length
 | 0 => by simp [Jd]
 | n + 1 => by simp [Jd,QgJ z n,Nat.add_mul]; omega
theorem Ey {z : List V} {zu : Array Value} (h : RelA S z zu) (n : Nat) : RelA S (Jd n z) ((Array.range (n * z.length)).map (zu[· % zu.size]!)) := by
 refine ⟨by simp [QgJ],fun j x u hj hu => ?_⟩
 obtain ⟨h1,h2⟩ := QcT n j x hj
 have hz : 0 < z.length := by
  rcases Nat.eq_zero_or_pos z.length with e | e
  ·rw [e] at h1; simp at h1
  ·exact e
 have hm : j % zu.size < zu.size := Nat.mod_lt _ (by rw [h.size]; exact hz)
 simp [h1] at hu
 subst hu
 refine h.get (j % zu.size) x _ (by rw [h.size]; exact h2) ?_
 simp [hm]
theorem N9 : Array.range 0 = #[] := rfl
theorem QpT (hS : Sim T S) (ht : Zv S t a.tmps) {base : Nat} {H' : Qa} {ty : TypeId} {len : Nat} {parts : Array (Nat × Operand)} (ho : o.op = .buildSlice ty len parts)
  (h : Z6 P base t S.H (.buildSlice ty len parts) = some (v,H')) : Y4 T P base S a o v H' := by
 simp only [Z6] at h
 cases he : Yz P ty with
 | none => simp [he] at h
 | some e =>
 cases hs : Q5 P e with
 | none => simp [he,hs] at h
 | some n =>
 cases hg : Z9 P e with
 | none => simp [he,hs,hg] at h
 | some ag =>
 cases hz : ZO P e with
 | none => simp [he,hs,hg,hz] at h
 | some z =>
  simp only [he,hs,hg,hz,Option.bind_some] at h
  split at h
  ·rename_i hc
   obtain ⟨hc1,hc2,hc3⟩ := hc
   cases hf : Js (fun i => some (i * n,n)) (Jd len z.cells) (Y5 t parts.toList) with
   | none => simp [hf] at h
   | some cs =>
    simp only [hf,Option.bind_some,rowOf] at h
    split at h
    ·rename_i hr
     obtain ⟨r1,r2,r3⟩ := hr
     simp at h
     obtain ⟨rfl,rfl⟩ := h
     obtain ⟨zu,z1,z2⟩ := Wr hz S
     have hu := RP he
     have hzr := z1.cells hc3
     have hzs : zu.cells.size = n := by rw [hzr.size]; exact hc2
     have hps := GK ht parts.toList
     have hq : (parts.map fun (i,x) => (i,a.eval x)).toList = parts.toList.map fun (i,x) => (i,a.eval x) := by simp
     obtain ⟨us,f1,f2⟩ := Xn (place' := fun i => some (i * n,n)) (fun i => rfl) hps (Ey hzr len) hf
     rw [hc2] at f1
     refine Eg hS (ty := e) (fr := (0,0)) (w' := S.w.alloc (.cells us e)) (cap := len) ⟨rfl,rfl,rfl,rfl⟩ f2.cellsRel r1 r2 (by rw [f2.size,r2]) (Nat.le_refl _) (Ry _) ?_
     have hno : ¬ len * n > 2 ^ 24 := by omega
     by_cases h0 : len * n = 0
     ·simp only [h0,N9,Array.map_empty] at f1
      simp [execOp,ho,Instr.buildSlice,Zo hu,YC hs,h0,N9,f1,newRow]
     ·simp [execOp,ho,Instr.buildSlice,Zo hu,YC hs,h0,hno,z2,f1,newRow]
    ·simp at h
  ·simp at h
theorem Qq0 (hS : Sim T S) (ht : Zv S t a.tmps) {base : Nat} {H' : Qa} {ty : TypeId} {l c : Operand} (ho : o.op = .makeSlice ty l c)
  (h : Z6 P base t S.H (.makeSlice ty l c) = some (v,H')) : Y4 T P base S a o v H' := by
 simp only [Z6] at h
 cases he : Yz P ty with
 | none => simp [he] at h
 | some e =>
 cases hs : Q5 P e with
 | none => simp [he,hs] at h
 | some n =>
 cases hg : Z9 P e with
 | none => simp [he,hs,hg] at h
 | some ag =>
 cases hb : K8 P e with
 | none => simp [he,hs,hg,hb] at h
 | some by_ =>
 cases hz : ZO P e with
 | none => simp [he,hs,hg,hb,hz] at h
 | some z =>
 cases hl : Y0 (env t l) with
 | none => simp [he,hs,hg,hb,hz,hl] at h
 | some len =>
 cases hcp : Y0 (env t c) with
 | none => simp [he,hs,hg,hb,hz,hl,hcp] at h
 | some cap =>
  simp only [he,hs,hg,hb,hz,hl,hcp,Option.bind_some] at h
  split at h
  ·rename_i hc
   obtain ⟨c1,c2,c3,c4,c5⟩ := hc
   subst c1
   simp only [rowOf] at h
   split at h
   ·rename_i hr
    obtain ⟨r1,r2,r3⟩ := hr
    simp at h
    obtain ⟨rfl,rfl⟩ := h
    obtain ⟨zu,z1,z2⟩ := Wr hz S
    obtain ⟨kl,il,e1,e2,e3⟩ := Ru (ZL ht l) hl
    obtain ⟨kc,ic,d1,d2,d3⟩ := Ru (ZL ht c) hcp
    obtain ⟨info,i1,i2⟩ := Qb5 hb
    have hu := RP he
    have hzr := z1.cells c5
    have hzs : zu.cells.size = n := by rw [hzr.size]; exact c4
    have f2 := Ey hzr len
    rw [c4] at f2
    simp only [Vd,Bool.and_eq_true,decide_eq_true_eq] at c2
    have hil : il = (len : Int) := by omega
    have hic : ic = (len : Int) := by omega
    subst hil hic
    have hw : IntKind.i64.wrap (len : Int) = len := IntWalk.i64_in _ (by omega)
    refine Eg hS (ty := e) (fr := (0,0)) (w' := S.w.alloc (.cells ((Array.range (len * n)).map (zu.cells[· % zu.cells.size]!)) e)) (cap := len) ⟨rfl,rfl,rfl,rfl⟩ f2.cellsRel r1 r2 (by rw [f2.size,r2]) (Nat.le_refl _) (Ry _) ?_
    have hbig : ¬ ((len : Int) < 0) := by omega
    have hbig2 : ¬ (281474976710656 < (by_ : Int) * (len : Int)) := by
     have h1 : ((by_ * len : Nat) : Int) ≤ ((70368744177664 : Nat) : Int) := Int.ofNat_le.2 (by rw [Nat.mul_comm]; exact c2.1)
     rw [Int.natCast_mul] at h1
     generalize (by_ : Int) * (len : Int) = q at h1 ⊢
     omega
    by_cases h0 : len * n = 0
    ·simp [execOp,ho,Instr.makeSlice,Zo hu,typeInfo,i1,i2,e1,d1,asInt,asIntOf,hw,hbig,hbig2,YC hs,h0,N9,newRow]
    ·simp [execOp,ho,Instr.makeSlice,Zo hu,typeInfo,i1,i2,e1,d1,asInt,asIntOf,hw,hbig,hbig2,YC hs,h0,z2,newRow]
   ·simp at h
  ·simp at h
end Go.Ev
end
section
namespace Go.Ev
variable {T : ZT}
variable {P : Program} {S : Ctx} {t : List V} {a : Act} {o : Oper} {v : V}
theorem Qru (hS : Sim T S) (ht : Zv S t a.tmps) {base : Nat} {H' : Qa} {ty : TypeId} {r : Option Operand} (ho : o.op = .makeMap ty r)
  (h : Z6 P base t S.H (.makeMap ty r) = some (v,H')) : Y4 T P base S a o v H' := by
 simp only [Z6] at h
 split at h
 case h_2 => simp at h
 rename_i k e hu
 have key : (v,H') = (.mapr S.H.length,.map [] :: S.H) ∧ (execOp a.eval o).run P S.w = .ok (.value (.map (some S.w.heap.size))) (S.w.alloc (.map #[] 0)) := by
  cases r with
  | none => simp at h; exact ⟨by rw [h.1,h.2],by simp [execOp,ho,Instr.makeMap]⟩
  | some x =>
   simp only at h
   have hx := ZL ht x
   cases e2 : env t x <;> simp only [e2] at h <;> try (simp at h; done)
   rw [e2] at hx
   have hxu := Fo hx
   simp at h
   exact ⟨by rw [h.1,h.2],by simp [execOp,ho,Instr.makeMap,Zo hu,hxu,asInt,asIntOf]⟩
 obtain ⟨k1,k2⟩ := key
 obtain ⟨rfl,rfl⟩ := Prod.mk.inj k1
 have hp : Pushed S.w (S.w.alloc (.map #[] 0)) (.map #[] 0) := ⟨rfl,rfl,rfl,rfl⟩
 refine ⟨S.push (.map []) _,_,rfl,rfl,Mq hS hp,Ew hS hp ⟨#[],0,hp.new,rfl,fun j k x hj => by simp at hj⟩,k2,.inl ⟨_,rfl,?_⟩,Bd.push _ _ _⟩
 exact .mapr _ _ (by simp [Ctx.push]) fun _ => by simp [Ctx.push]
theorem Tl {kt : TypeId} {d : TypeDesc} (hu : P.underlying kt = some d) {ku : Value} {ms : List MapEntry} {r : Option (Nat × Value)} (h : Instr.findNow d ku ms 0 = some r) (w : World) :
  (Instr.findKey kt ku ms).run P w = .ok r w := by simp [Instr.findKey,Zo hu,h]
theorem Qqi {k kk : V} {ku mu : Value} (hk : Rel S k ku) (hm : Rel S kk mu) (h : sameKey k kk = some true) : Instr.sameBits 10000 mu ku = true := by
 cases hk <;> cases hm <;> simp [sameKey] at h
 ·subst h; simp [Instr.sameBits]
 ·obtain ⟨rfl,rfl⟩ := h; simp [Instr.sameBits]
 ·rename_i b1 b2
  have : b1 = b2 := by cases b1; cases b2; simp at h; simp [h]
  subst this
  simp [Instr.sameBits,bytes_beq]
theorem Tn (hS : Sim T S) (ht : Zv S t a.tmps) {base : Nat} {H' : Qa} {ty : TypeId} {m k x : Operand} (ho : o.op = .mapUpdate ty m k x ∨ o.op = .insert ty m k x)
  (h : (NK P base ty S.H (env t m) (env t k) (env t x)).map (fun H' => ((.tup [] : V),H')) = some (v,H')) : Y4 T P base S a o v H' := by
 have hm := ZL ht m
 have hk := ZL ht k
 have hx := ZL ht x
 generalize hmu : a.eval m = mu at hm
 generalize hku : a.eval k = ku at hk
 generalize hxu : a.eval x = xu at hx
 generalize env t m = mv at hm h
 generalize env t k = kv at hk h
 generalize env t x = xv at hx h
 have hrun : ∀ {r : Result Unit},(Instr.mapUpdate ty mu ku xu).run P S.w = r → ∀ w',r = .ok () w' → (execOp a.eval o).run P S.w = .ok .skip w' := by
  intro r hr w' e
  subst e
  rcases ho with ho | ho <;> simp [execOp,ho,hmu,hku,hxu,hr]
 cases hup : NK P base ty S.H mv kv xv with
 | none => simp [hup] at h
 | some H1 =>
  simp [hup] at h
  obtain ⟨rfl,rfl⟩ := h
  unfold NK at hup
  split at hup
  ·rename_i kt et hu
   split at hup
   ·rename_i hok
    obtain ⟨d,hd,hkind⟩ := Qb6 hk hok
    have hd' : (∃ k,d = .int k) ∨ d = .string ∨ d = .bool := by
     rcases hkind with ⟨kd,n,e,_⟩ | ⟨b,e,_⟩ | ⟨b,e,_⟩
     ·exact .inl ⟨_,e⟩
     ·exact .inr (.inl e)
     ·exact .inr (.inr e)
    split at hup
    ·rename_i i
     split at hup
     ·rename_i es hg
      split at hup
      ·rename_i hfit
       cases hf : K5 kv es 0 with
       | none => simp [hf] at hup
       | some r =>
        simp only [hf,Option.map_some,Option.some.injEq] at hup
        cases hm with
        | mapr _ c hi hc =>
        have e := hc (by simp [Zj,hg,ZQ])
        subst e
        obtain ⟨ms,clock,g1,g2,g3⟩ := hS.blk i _ hg
        have hent : ∀ (j : Nat) (kk x : V) (m : MapEntry),es[j]? = some (kk,x) → ms.toList[j]? = some m → Rel S kk m.key ∧ Rel S x m.val := fun j kk x m p q => by
         obtain ⟨m',q1,q2,q3⟩ := g3 j kk x p
         have : ms[j]? = some m := by simpa using q
         rw [this] at q1; injection q1 with q1; subst q1
         exact ⟨q2,q3⟩
        have Q0 : (getObj (S.ρ i)).run P S.w = .ok (.map ms clock) S.w := by simp [getObj,Sem.run,g1]
        have hlt : S.ρ i < S.w.heap.size := hS.lt (KB hg rfl)
        have fin : ∀ (es' : List (V × V)) (ms' : Array MapEntry) (clock' : Nat),(∀ b,i < b → YX (.map es) ≤ b → YX (.map es') ≤ b ∨ base ≤ i) →
          ms'.size = es'.length → (∀ (j : Nat) (k x : V),es'[j]? = some (k,x) → ∃ m : MapEntry,ms'[j]? = some m ∧ Rel S k m.key ∧ Rel S x m.val) →
          (Instr.mapUpdate ty (.map (some (S.ρ i))) ku xu).run P S.w = .ok () { S.w with heap := S.w.heap.setIfInBounds (S.ρ i) (.map ms' clock') } →
          Y4 T P base S a o (.tup []) (ZV S.H i (.map es')) := by
         intro es' ms' clock' hb hsz hrel hrun'
         have hw : Written S.w { S.w with heap := S.w.heap.setIfInBounds (S.ρ i) (.map ms' clock') } (S.ρ i) :=
          ⟨by simp,fun d hd => by simp [Array.getElem?_setIfInBounds_ne (Ne.symm hd)],rfl,rfl,rfl⟩
         have hs : sameShape S.w { S.w with heap := S.w.heap.setIfInBounds (S.ρ i) (.map ms' clock') } (S.ρ i) (.map es) (.map es') := fun v sz ag cs e => by simp at e
         have hx2 := BD hS (b' := .map es') hg rfl rfl hw hs
         refine ⟨S.put i (.map es') _,.skip,rfl,rfl,hx2,LY hS hg rfl rfl hw hs ⟨ms',clock',?_,hsz,fun j k x hj => ?_⟩,hrun (hmu ▸ hrun') _ rfl,.inr ⟨rfl,rfl⟩,Bd.set ?_⟩
         ·simp only [Ctx.put]; rw [Array.getElem?_setIfInBounds,if_pos rfl,if_pos hlt]
         ·obtain ⟨m,q1,q2,q3⟩ := hrel j k x hj
          exact ⟨m,q1,q2.mono hx2,q3.mono hx2⟩
         ·by_cases c : base ≤ i
          ·exact .inl c
          ·exact .inr fun b hb1 hb2 => (hb b hb1 (hb2 _ hg)).resolve_right c
        have keyRef : kv.maxRef = 0 := by
         rcases hkind with ⟨kd,n,_,kd',rfl,_⟩ | ⟨b,_,rfl,_⟩ | ⟨b,_,rfl,_⟩ <;> rfl
        have setObj_run : ∀ (ms' : Array MapEntry) (clock' : Nat),(setObj (S.ρ i) (.map ms' clock')).run P S.w = .ok () { S.w with heap := S.w.heap.setIfInBounds (S.ρ i) (.map ms' clock') } := by
         intro ms' clock'; simp [setObj,Sem.run,g1]
        have ref : ∀ b,i < b → ∀ es' : List (V × V),(∀ q ∈ es',q ∈ es ∨ q = (kv,xv)) → YX (.map es) ≤ b → YX (.map es') ≤ b ∨ base ≤ i := by
         intro b hb es' hes h1
         rcases NW hfit with hf | hf
         ·exact .inr hf
         ·refine .inl ?_
          simp only [YX,Nat.max_le,JF,List.mem_map] at h1 ⊢
          refine ⟨?_,?_⟩
          ·rintro y ⟨q,hq,rfl⟩
           rcases hes q hq with hq | rfl
           ·exact h1.1 _ ⟨q,hq,rfl⟩
           ·simp [keyRef]
          ·rintro y ⟨q,hq,rfl⟩
           rcases hes q hq with hq | rfl
           ·exact h1.2 _ ⟨q,hq,rfl⟩
           ·simp only; omega
        rcases Dp hkind (by simp [g2]) hent hf with ⟨rfl,hn⟩ | ⟨j,y,u,kk,rfl,hyu,hn,hj,hsame⟩
        ·simp only at hup
         subst hup
         refine fin _ (ms.push { key := ku,val := xu,born := clock }) (clock + 1) (fun b hb h1 => ref b hb _ (fun q hq => by simpa using hq) h1) (by simp [g2]) (fun j k' x' hj => ?_) ?_
         ·rw [List.getElem?_append] at hj
          split at hj
          ·rename_i hlt'
           obtain ⟨m,q1,q2,q3⟩ := g3 j k' x' hj
           refine ⟨m,?_,q2,q3⟩
           rw [Array.getElem?_push,if_neg (by omega)]; exact q1
          ·rename_i hge
           have hj0 : j - es.length = 0 := by
            rcases Nat.eq_zero_or_pos (j - es.length) with z | z
            ·exact z
            ·rw [List.getElem?_eq_none (by simp; omega)] at hj; simp at hj
           rw [hj0] at hj
           simp at hj
           obtain ⟨rfl,rfl⟩ := hj
           refine ⟨{ key := ku,val := xu,born := clock },?_,hk,hx⟩
           rw [Array.getElem?_push,if_pos (by omega)]
         ·simp [Instr.mapUpdate,Zo hu,Q0,run_checkKey hd hd',Tl hd hn,setObj_run]
        ·simp only [Nat.zero_add] at hup hn
         subst hup
         have hjl : j < es.length := (List.getElem?_eq_some_iff.1 hj).1
         have hjm : j < ms.size := by omega
         have hkk := (hent j kk y ms[j] hj (by simp [hjm])).1
         refine fin _ (ms.modify j fun e => { e with key := ku,val := xu }) clock (fun b hb h1 => ref b hb _ (fun q hq => List.mem_or_eq_of_mem_set hq) h1) (by simp [g2]) (fun j' k' x' hj' => ?_) ?_
         ·rw [List.getElem?_set] at hj'
          rw [Array.getElem?_modify]
          by_cases c : j = j'
          ·subst c
           rw [if_pos rfl] at hj'
           simp [hjl] at hj'
           obtain ⟨rfl,rfl⟩ := hj'
           refine ⟨{ ms[j] with key := ku,val := xu },?_,hk,hx⟩
           simp [hjm]
          ·rw [if_neg c] at hj'
           rw [if_neg c]
           exact g3 j' k' x' hj'
         ·have hst : (Instr.keyThatStays ms[j].key ku).run P S.w = .ok ku S.w := by
           simp [Instr.keyThatStays,Qqi hk hkk hsame]
          simp [Instr.mapUpdate,Zo hu,Q0,run_checkKey hd hd',Tl hd hn,setObj_run,hjm,hst]
      ·simp at hup
     ·simp at hup
    ·simp at hup
   ·simp at hup
  ·simp at hup
end Go.Ev
end
section
namespace Go.Ev
variable {T : ZT}
variable {P : Program} {S : Ctx} {t : List V} {a : Act} {o : Oper} {v : V}
theorem BO : ∀ {l : List V},ZI l = true ↔ ∀ x ∈ l,x.scal = true
 | [] => by simp [ZI]
 | v :: l => by simp [ZI,BO (l := l)]
theorem Ao {v : V} {u : Value} (h : Rel S v u) (hs : v.scal = true) : u.oneCell' = true := by
 cases h <;> first | rfl | simp [V.scal] at hs
theorem PR {w : World} {c : Nat} {cells : Array Value} {e : TypeId} {fr : Nat × Nat} (hw : w.heap[c]? = some (.cells cells e fr)) (hf : Fj cells.size fr) (off : Nat) :
  ∀ (vs : List Value) (i : Nat) (w : World) (cells : Array Value),w.heap[c]? = some (.cells cells e fr) → Fj cells.size fr → (∀ v ∈ vs,v.oneCell' = true) → off + i + vs.length ≤ cells.size →
   ∃ (w' : World) (cells' : Array Value),(storeCells ⟨c,off,none⟩ vs i).run P w = .ok () w' ∧ Written w w' c ∧ w'.heap[c]? = some (.cells cells' e fr) ∧ cells'.size = cells.size ∧
    ∀ j,cells'[j]? = if off + i ≤ j ∧ j < off + i + vs.length then vs[j - (off + i)]? else cells[j]?
 | [],i,w,cells,hw,hf,_,_ => ⟨w,cells,by simp [storeCells],⟨rfl,fun _ _ => rfl,rfl,rfl,rfl⟩,hw,rfl,fun j => by rw [if_neg (by simp)]⟩
 | v :: vs,i,w,cells,hw,hf,hv,hle => by
  simp only [List.length_cons] at hle
  have hlt : off + i < cells.size := by omega
  have hcell : w.cell? ⟨c,off + i,none⟩ = some cells[off + i] := by rw [LI hw]; simp [hlt]
  have hfro : w.frozen? ⟨c,off + i,none⟩ = false := by
   simp only [World.frozen?,hw]
   have := hf (off + i) hlt
   simp only [Bool.and_eq_false_imp,decide_eq_true_eq,decide_eq_false_iff_not]
   omega
  have ZV : (w.setCell ⟨c,off + i,none⟩ v).heap[c]? = some (.cells (cells.setIfInBounds (off + i) v) e fr) := by
   simp [World.setCell,Array.getElem?_modify,hw]
  obtain ⟨w',cells',h1,h2,h3,h4,h5⟩ := PR hw hf off vs (i + 1) (w.setCell ⟨c,off + i,none⟩ v) (cells.setIfInBounds (off + i) v) ZV (by simpa using hf) (fun x hx => hv x (List.mem_cons_of_mem _ hx)) (by simp; omega)
  refine ⟨w',cells',?_,⟨by rw [h2.size]; simp,fun d hd => ?_,h2.os,h2.tape,h2.output⟩,h3,by rw [h4]; simp,fun j => ?_⟩
  ·simp only [storeCells,Sem.run_bind,addr_add,run_store P w _ v _ (hv v (List.mem_cons_self)),hcell,hfro]
   simp [h1]
  ·rw [h2.old d hd]
   simp [World.setCell,Array.getElem?_modify,Ne.symm hd]
  ·rw [h5]
   simp only [List.length_cons]
   by_cases c1 : j = off + i
   ·subst c1
    rw [if_neg (by omega),if_pos (by omega)]
    simp [hlt]
   ·by_cases c2 : off + (i + 1) ≤ j ∧ j < off + (i + 1) + vs.length
    ·rw [if_pos c2,if_pos (by omega)]
     have : j - (off + i) = (j - (off + (i + 1))) + 1 := by omega
     rw [this]; simp
    ·rw [if_neg c2,if_neg (by omega),Array.getElem?_setIfInBounds_ne (by omega)]
theorem XJ {cs xs : List V} {cells cells' us : Array Value} {off : Nat} (hc : Yx S cs cells) (hx : RelA S xs us) (hle : off + xs.length ≤ cs.length)
  (h : ∀ j,cells'[j]? = if off ≤ j ∧ j < off + us.toList.length then us.toList[j - off]? else cells[j]?) : Yx S (splice cs off xs) cells' := fun j x hj => by
 rw [Qdl hle] at hj
 rw [h]
 have hl : us.toList.length = xs.length := by simp [hx.size]
 rw [hl]
 split at hj
 ·rename_i c
  rw [if_pos c]
  have hlt : j - off < us.size := by rw [hx.size]; omega
  exact ⟨us[j - off],by simp [hlt],hx.get _ x _ hj (by simp [hlt])⟩
 ·rename_i c
  rw [if_neg c]; exact hc j x hj
theorem Qh9 (hS : Sim T S) (ht : Zv S t a.tmps) {base : Nat} {H' : Qa} {ty : TypeId} {p x : Operand} (ho : o.op = .store ty p x) (h : Z6 P base t S.H (.store ty p x) = some (v,H')) : Y4 T P base S a o v H' := by
 simp only [Z6] at h
 cases hs : Q5 P ty with
 | none => simp [hs] at h
 | some n =>
  simp only [hs,Option.bind_some] at h
  cases hst : Rx base n S.H (env t p) (env t x) with
  | none => simp [hst] at h
  | some H1 =>
   simp [hst] at h
   obtain ⟨rfl,rfl⟩ := h
   have hx := ZL ht x
   have hp := ZL ht p
   generalize hxu : a.eval x = xu at hx
   generalize hpu : a.eval p = pu at hp
   generalize env t x = xv at hx hst
   generalize env t p = pv at hp hst
   unfold Rx at hst
   split at hst
   ·rename_i hc
    obtain ⟨c1,c2⟩ := hc
    have hxa := hx.cells c2
    have hone : ∀ u ∈ xu.cells.toList,u.oneCell' = true := fun u hu => by
     obtain ⟨j,hj,rfl⟩ := List.getElem_of_mem hu
     have hj' : j < xu.cells.size := by simpa using hj
     have hjx : j < xv.cells.length := by rw [← hxa.size]; exact hj'
     refine Ao (hxa.get j xv.cells[j] _ (by simp [hjx]) (by simp [hj'])) (BO.1 c2 _ (List.getElem_mem _))
    have hxs : xu.cells.size = n := by rw [hxa.size]; exact c1
    split at hst
    ·rename_i i ver off
     split at hst
     ·rename_i hfit
      cases hp with
      | ptr _ _ _ ad hi hh =>
      have main : ∀ (ga : Bool) (b b' : Blk) (cs : List V),Q0 S.H i = some b → ZQ b = some ver → ZQ b' = ZQ b → (∀ S' : Ctx,∀ (cells : Array Value) (e : TypeId) (fr : Nat × Nat),S'.w.heap[S.ρ i]? = some (.cells cells e fr) → Un ga cells.size fr →
         (∃ cells0,S.w.heap[S.ρ i]? = some (.cells cells0 e fr) ∧ cells0.size = cells.size) → Yx S' (splice cs off xv.cells) cells → J4 S' (S.ρ i) b') →
        (∃ cells e fr,S.w.heap[S.ρ i]? = some (.cells cells e fr) ∧ cs.length ≤ cells.size ∧ Un ga cells.size fr ∧ Yx S cs cells) → off + n ≤ cs.length →
        (∀ v sz ag cs,b = .row v sz ag cs → ∃ cs',b' = .row v sz ag cs') → (∀ m,YX b ≤ m → xv.maxRef ≤ m → YX b' ≤ m) →
        ZV S.H i b' = H1 → Y4 T P base S a o (.tup []) H1 := by
       intro ga b b' cs hg hver hver' hbr hcells hle hrow href hH
       subst hH
       obtain ⟨cells,e,fr,g1,g2,g3,g4⟩ := hcells
       obtain ⟨_,e1⟩ := hh ver (by simp [Zj,hg,hver])
       have e2 := e1 rfl
       subst e2
       obtain ⟨w',cells',r1,r2,r3,r4,r5⟩ := PR (P := P) g1 g3.1 off xu.cells.toList 0 S.w cells g1 g3.1 hone (by simp [hxs]; omega)
       have hshape : sameShape S.w w' (S.ρ i) b b' := fun v sz ag cs2 eb => ⟨hrow v sz ag cs2 eb,fun cells2 e2 fr2 q => by
        rw [g1] at q; injection q with q; injection q with q1 q2 q3; subst q1 q2 q3
        exact ⟨cells',e,fr,r3,r4⟩⟩
       have hxe := BD hS hg hver' (by simp [hver]) r2 hshape
       have hcr : Yx S (splice cs off xv.cells) cells' := XJ g4 hxa (by omega) (by simpa using r5)
       refine ⟨S.put i b' w',.skip,rfl,rfl,hxe,LY hS hg hver' (by simp [hver]) r2 hshape (hbr _ cells' e fr r3 (by rw [r4]; exact g3) ⟨cells,g1,r4.symm⟩ (hcr.mono hxe)),?_,.inr ⟨rfl,rfl⟩,Bd.set ?_⟩
       ·simp only [execOp,ho,hpu,hxu,Instr.storeAt,Instr.sureAddr,storeVar,Sem.run_bind,Sem.run_pure,Result.andThen_ok,YC hs]
        rw [if_neg (by omega)]
        rw [show storeCells ⟨S.ρ i,off,none⟩ xu.cells.toList = storeCells ⟨S.ρ i,off,none⟩ xu.cells.toList 0 from rfl,r1]
        rfl
       ·rcases NW hfit with hf | hf
        ·exact .inl hf
        ·exact .inr fun m hm hb => href m (hb _ hg) (by omega)
      split at hst
      ·rename_i cs hg
       split at hst
       ·rename_i hc3
        obtain ⟨rfl,hle⟩ := hc3
        simp at hst
        obtain ⟨cells,e,fr,g1,g2,g3,g4⟩ := hS.blk i _ hg
        refine main true (.var cs) (.var (splice cs off xv.cells)) cs hg rfl rfl (fun S' cells' e' fr' q1 q2 q3 q4 => ?_) ⟨cells,e,fr,g1,by omega,g3,g4⟩ hle (fun v sz ag cs2 eb => by simp at eb) (fun m h1 h2 => ?_) hst
        ·obtain ⟨cells0,p1,p2⟩ := q3
         rw [g1] at p1; injection p1 with p1; injection p1 with p1 p3 p4; subst p1
         exact ⟨cells',e',fr',q1,by rw [← p2,g2,Np (by omega)],q2,q4⟩
        ·exact LL h1 (Nat.le_trans (QdA _) h2)
       ·simp at hst
      ·rename_i vv sz ag cs hg
       split at hst
       ·rename_i hc3
        obtain ⟨rfl,hle⟩ := hc3
        simp at hst
        obtain ⟨cells,e,fr,g1,g2,g3,g4,g5⟩ := hS.blk i _ hg
        refine main ag (.row ver sz ag cs) (.row ver sz ag (splice cs off xv.cells)) cs hg rfl rfl (fun S' cells' e' fr' q1 q2 q3 q4 => ?_) ⟨cells,e,fr,g1,g2,g4,g5⟩ hle (fun v sz ag cs2 eb => by simp at eb; obtain ⟨rfl,rfl,rfl,rfl⟩ := eb; exact ⟨_,rfl⟩) (fun m h1 h2 => ?_) hst
        ·obtain ⟨cells0,p1,p2⟩ := q3
         rw [g1] at p1; injection p1 with p1; injection p1 with p1 p3 p4; subst p1
         exact ⟨cells',e',fr',q1,by rw [← p2,Np (by omega)]; exact g2,g3,q2,q4⟩
        ·exact LL h1 (Nat.le_trans (QdA _) h2)
       ·simp at hst
      ·simp at hst
     ·simp at hst
    ·simp at hst
   ·simp at hst
theorem QgY : ∀ (l : List UInt8) (j : Nat),(J2 l)[j]? = (l[j]?).map fun b => V.int .u8 b.toNat
 | [],j => by simp [J2]
 | b :: l,0 => by simp [J2]
 | b :: l,j + 1 => by simp [J2,QgY l j]
theorem Dm : ∀ (l : List UInt8),(J2 l).length = l.length
 | [] => rfl
 | b :: l => by simp [J2,Dm l]
theorem Qdg (S : Ctx) (bs : ByteArray) : RelA S (J2 bs.data.toList) (bs.data.map fun b => Value.int .u8 b.toNat) := by
 refine ⟨by simp [Dm],fun j x u hj hu => ?_⟩
 rw [QgY] at hj
 simp only [Array.getElem?_map] at hu
 have e : bs.data.toList[j]? = bs.data[j]? := by simp
 rw [e] at hj
 cases hb : bs.data[j]? with
 | none => rw [hb] at hj; simp at hj
 | some b => rw [hb] at hj hu; simp at hj hu; subst hj hu; exact .int _ _
theorem TP (need old : Nat) (e : TypeId) (k : Nat) : need ≤ Question.cut (.appendCap need old e) k := by simp [Question.cut]
theorem QkB (hS : Sim T S) (ht : Zv S t a.tmps) {base : Nat} {H' : Qa} {src dst : TypeId} {x : Operand} (ho : o.op = .convert src dst x)
  (h : Z6 P base t S.H (.convert src dst x) = some (v,H')) : Y4 T P base S a o v H' := by
 have hx := ZL ht x
 generalize hxu : a.eval x = xu at hx
 simp only [Z6] at h
 split at h
 case isFalse => simp at h
 rename_i hsrc
 obtain ⟨d0,hd0⟩ := Option.isSome_iff_exists.1 hsrc
 split at h
 ·rename_i s e he hu
  rw [he] at hx
  split at h
  ·rename_i heu
   simp only [rowOf] at h
   split at h
   ·rename_i hr
    simp at h
    obtain ⟨rfl,rfl⟩ := h
    obtain ⟨bs,rfl,rfl⟩ := V9 hx
    let cap := Question.cut (.appendCap bs.size 0 e) (S.w.tape S.w.drawn (.appendCap bs.size 0 e))
    have hcap : bs.size ≤ cap := TP _ _ _ _
    let us : Array Value := (bs.data.map fun b => Value.int .u8 b.toNat) ++ Array.replicate (cap - bs.size) (.int .u8 0)
    have hus : us.size = cap := by simp [us]; have : bs.data.size = bs.size := rfl; omega
    have hdl : bs.data.toList.length = bs.size := by simp
    let w1 := (S.w.drew.alloc (.cells us e))
    let w2 := w1.freeze ⟨S.w.heap.size,us.size,none⟩ 1
    have hw1h : w1.heap = S.w.heap.push (.cells us e) := rfl
    have hw1 : w1.heap[S.w.heap.size]? = some (.cells us e (0,0)) := by rw [hw1h]; simp
    have hp : Pushed S.w w2 (.cells us e (us.size,us.size + 1)) := by
     refine ⟨?_,rfl,rfl,rfl⟩
     apply Array.ext_getElem?
     intro j
     simp only [w2,World.freeze,Nat.one_ne_zero,if_false]
     rw [Array.getElem?_modify]
     by_cases c : S.w.heap.size = j
     ·subst c
      rw [if_pos rfl,hw1]
      simp
     ·rw [if_neg c]
      rw [hw1h,Array.getElem?_push,Array.getElem?_push,if_neg (Ne.symm c),if_neg (Ne.symm c)]
    refine Eg hS (ty := e) (fr := (us.size,us.size + 1)) (w' := w2) (cap := cap) hp (fun j y hj => ?_) (by omega) (by simp [Dm]) (by simp [hus]) (by rw [hdl]; exact hcap) ⟨fun j hj c => by have := c.1; simp at this; omega,fun h => by cases h⟩ ?_
    ·obtain ⟨u,k1,k2⟩ := (Qdg S bs).cellsRel j y hj
     refine ⟨u,?_,k2⟩
     have hlt := (Array.getElem?_eq_some_iff.1 k1).1
     simp only [us]
     rw [Array.getElem?_append,if_pos hlt]; exact k1
    ·have hsh : (shape S.w.heap.size).run P w1 = .ok (some (e,us.size)) w1 := by simp [World.shape?,hw1]
     rw [hdl]
     have key : (Conv.stringToBytes e bs).run P S.w = .ok (.slice (some ⟨S.w.heap.size,0,none⟩) bs.size cap) w2 := by
      simp only [Conv.stringToBytes,Sem.run_bind,run_choose,Question.forced,Bool.false_eq_true,if_false,Result.andThen_ok,newRow,run_newObj,Sem.run_pure,markStringish]
      have hsh' : w1.shape? S.w.heap.size = some (e,us.size) := by simp [World.shape?,hw1]
      show (Result.andThen (Sem.run P (do
        let some (_,n) ← shape S.w.heap.size | pure ()
        freeze { block := S.w.heap.size,off := n } 1) w1) fun a w' => Result.ok (Value.slice (some ⟨S.w.heap.size,0,none⟩) bs.size cap) w') = _
      simp [hsh']
      rfl
     cases d0 <;> simp [execOp,ho,convert,hxu,Zo hu,Zo hd0,Zo heu,key]
   ·simp at h
  ·simp at h
 ·simp at h
end Go.Ev
end
section
namespace Go.Ev
variable {T : ZT}
variable {P : Program} {S : Ctx} {t : List V} {a : Act} {o : Oper} {v : V}
theorem Qd0 (z : Array Value) (n : Nat) : (Builtin.zeroCells z n).size = n * z.size := by simp [Builtin.zeroCells]
structure Source (P : Program) (S : Ctx) (n : Nat) (ty2 : TypeId) (xu : Value) (new : List V) (k : Nat) : Prop where
 kind : (∃ e2,P.underlying ty2 = some (.slice e2)) ∨ P.underlying ty2 = some .string
 len : ∀ w : World,(Builtin.lenOf xu).run P w = .ok k w
 cells : ∃ us : Array Value,RelA S new us ∧ ∀ w : World,(∀ c,c < S.w.heap.size → w.heap[c]? = S.w.heap[c]?) → (Builtin.firstCells n k xu).run P w = .ok us w
theorem Qj7 (hS : Sim T S) {x : V} {xu : Value} (hx : Rel S x xu) {n k : Nat} {new : List V} (hk : Yr x = some k) (hc : YR n S.H x = some new) {ty2 e2 : TypeId} (hu : P.underlying ty2 = some (.slice e2)) :
  Source P S n ty2 xu new k := by
 obtain ⟨hl,p,cap,rfl,hz,hcell⟩ := Ml hS hx hk hc
 refine ⟨.inl ⟨_,hu⟩,fun w => by simp [Builtin.lenOf],?_⟩
 cases p with
 | none =>
  have := hz rfl
  subst this
  exact ⟨#[],⟨rfl,fun j x u hj => by simp at hj⟩,fun w _ => by simp [Builtin.firstCells]⟩
 | some ad =>
  have hex : ∃ us : Nat → Value,∀ (j : Nat) (y : V),new[j]? = some y → S.w.cell? (ad.add j) = some (us j) ∧ Rel S y (us j) := by
   refine ⟨fun j => (S.w.cell? (ad.add j)).getD undef,fun j y hj => ?_⟩
   obtain ⟨u',k1,k2⟩ := hcell ad rfl j y hj
   simp [k1,k2]
  obtain ⟨us,hus⟩ := hex
  refine ⟨((List.range (k * n)).map us).toArray,⟨by simp [hl],fun j y u hj hu => ?_⟩,fun w hw => ?_⟩
  ·have hlt : j < k * n := by rw [← hl]; exact (List.getElem?_eq_some_iff.1 hj).1
   simp [hlt] at hu
   subst hu
   exact (hus j y hj).2
  ·have hld := run_loadCells (P := P) w ad (k * n) us (fun j hj => by
    have hg := (hus j new[j] (by simp [List.getElem?_eq_getElem (show j < new.length by omega)])).1
    have hlt := World.block_lt_of_cell? _ _ hg
    rw [← hg]
    simp only [World.cell?]
    rw [hw _ hlt])
   simp only [Builtin.firstCells,hld]
theorem Qi3 {bs : ByteArray} {ty2 : TypeId} (hu : P.underlying ty2 = some .string) (n : Nat) : Source P S n ty2 (.string bs) (J2 bs.data.toList) bs.data.toList.length := by
 have hdl : bs.data.toList.length = bs.size := by simp
 refine ⟨.inr hu,fun w => by simp [Builtin.lenOf],_,Qdg S bs,fun w _ => ?_⟩
 have : bs.extract 0 bs.data.toList.length = bs := by rw [hdl]; exact ByteArray.extract_zero_size
 simp only [Builtin.firstCells,this,Sem.run_pure]
theorem Qfh {ty ty2 e oty : TypeId} {n by_ k sLen sCap : Nat} {zu : Value} {info : TypeInfo} {base : Option Addr} {xu : Value} {new : List V} {w : World}
  (hu : P.underlying ty = some (.slice e)) (hn : Q5 P e = some n) (i1 : P.info? e = some info) (i2 : info.bytes = by_) (z2 : ∀ w,(zeroValue e).run P w = .ok zu w)
  (hsrc : Source P S n ty2 xu new k) {args : Array Value} (ha0 : args[0]? = some (.slice base sLen sCap)) (ha1 : args[1]? = some xu) {tys : Array TypeId} (ht0 : tys[0]? = some ty) (ht1 : tys[1]? = some ty2)
  (hgt : sCap < sLen + k) (hroom : (sLen + k) * by_ ≤ 70368744177664 ∧ sLen + k ≤ 70368744177664) {old us : Array Value}
  (hold : ∀ w' : World,w'.heap = w.heap → (Builtin.firstCells n sLen (.slice base sLen sCap)).run P w' = .ok old w') (hnew : ∀ w' : World,w'.heap = w.heap → (Builtin.firstCells n k xu).run P w' = .ok us w') :
  ∃ cap,sLen + k ≤ cap ∧ (Builtin.append_ tys oty args).run P w = .ok (.slice (some ⟨w.heap.size,0,none⟩) (sLen + k) cap) (w.drew.alloc (.cells (old ++ us ++ Builtin.zeroCells zu.cells (cap - (sLen + k))) e)) := by
 have hfit := growslice_fits (need := sLen + k) (old := sCap) (bytes := by_) hgt (by omega)
 have hno : ¬ (281474976710656 < Builtin.nextslicecap (sLen + k) sCap * info.bytes) := by rw [i2]; omega
 have hle : ¬ (sLen + k ≤ sCap) := by omega
 have hbig : ¬ (9223372036854775807 < ((sLen : Int) + (k : Int))) := by omega
 refine ⟨Question.cut (.appendCap (sLen + k) sCap e) (w.tape w.drawn (.appendCap (sLen + k) sCap e)),TP _ _ _ _,?_⟩
 have ho := hold w.drew rfl
 have hn' := hnew w.drew rfl
 rcases hsrc.kind with ⟨e2,hk⟩ | hk
 ·simp [Builtin.append_,ha0,ha1,ht0,ht1,Zo hu,Zo hk,YC hn,typeInfo,i1,z2,hsrc.len,hle,hbig,hno,Question.forced,ho,hn',newRow]
 ·simp [Builtin.append_,ha0,ha1,ht0,ht1,Zo hu,Zo hk,YC hn,typeInfo,i1,z2,hsrc.len,hle,hbig,hno,Question.forced,ho,hn',newRow]
theorem Qft {ty ty2 e oty : TypeId} {n k sLen sCap : Nat} {ad : Addr} {xu : Value} {new : List V} {w w' : World}
  (hu : P.underlying ty = some (.slice e)) (hn : Q5 P e = some n)
  (hsrc : Source P S n ty2 xu new k) {args : Array Value} (ha0 : args[0]? = some (.slice (some ad) sLen sCap)) (ha1 : args[1]? = some xu) {tys : Array TypeId} (ht0 : tys[0]? = some ty) (ht1 : tys[1]? = some ty2)
  (hle : sLen + k ≤ sCap) {us : Array Value} (hnew : (Builtin.firstCells n k xu).run P w = .ok us w) (hst : (storeCells (ad.add (sLen * n)) us.toList).run P w = .ok () w') :
  (Builtin.append_ tys oty args).run P w = .ok (.slice (some ad) (sLen + k) sCap) w' := by
 rcases hsrc.kind with ⟨e2,hk⟩ | hk
 ·simp [Builtin.append_,ha0,ha1,ht0,ht1,Zo hu,Zo hk,YC hn,hsrc.len,hle,hnew,hst]
 ·simp [Builtin.append_,ha0,ha1,ht0,ht1,Zo hu,Zo hk,YC hn,hsrc.len,hle,hnew,hst]
theorem QjQ {ty ty2 e oty : TypeId} {n : Nat} {xu : Value} {new : List V} {w : World}
  (hu : P.underlying ty = some (.slice e)) (hn : Q5 P e = some n)
  (hsrc : Source P S n ty2 xu new 0) {args : Array Value} (ha0 : args[0]? = some (.slice none 0 0)) (ha1 : args[1]? = some xu) {tys : Array TypeId} (ht0 : tys[0]? = some ty) (ht1 : tys[1]? = some ty2)
  {us : Array Value} (hnew : (Builtin.firstCells n 0 xu).run P w = .ok us w) :
  (Builtin.append_ tys oty args).run P w = .ok (.slice none 0 0) w := by
 rcases hsrc.kind with ⟨e2,hk⟩ | hk
 ·simp [Builtin.append_,ha0,ha1,ht0,ht1,Zo hu,Zo hk,YC hn,hsrc.len,hnew]
 ·simp [Builtin.append_,ha0,ha1,ht0,ht1,Zo hu,Zo hk,YC hn,hsrc.len,hnew]
theorem Qd2 (w : World) (o : Obj) : Pushed w (w.drew.alloc o) o := ⟨rfl,rfl,rfl,rfl⟩
theorem Qhq (hS : Sim T S) {base : Nat} {H' : Qa} {ty ty2 e : TypeId} {n by_ k : Nat} {ag : Bool} {z s : V} {su xu : Value} {new : List V} {oty : TypeId}
  (hu : P.underlying ty = some (.slice e)) (hn : Q5 P e = some n) (hb : K8 P e = some by_) (hz : ZO P e = some z) (hzl : z.cells.length = n) (hzs : ZI z.cells = true)
  (hs : Rel S s su) (hsrc : Source P S n ty2 xu new k) {args : Array Value} (ha0 : args[0]? = some su) (ha1 : args[1]? = some xu) {tys : Array TypeId} (ht0 : tys[0]? = some ty) (ht1 : tys[1]? = some ty2)
  (hr : ∀ u w',(Builtin.append_ tys oty args).run P S.w = .ok u w' → (execOp a.eval o).run P S.w = .ok (.value u) w')
  (h : Ub base S.H n by_ ag s new k = some (v,H')) : Y4 T P base S a o v H' := by
 obtain ⟨info,i1,i2⟩ := Qb5 hb
 obtain ⟨info',j1,j2⟩ := FG hn
 rw [i1] at j1; injection j1 with j1; subst j1
 obtain ⟨zu,z1,z2⟩ := Wr hz S
 have hzr := z1.cells hzs
 have hzsz : zu.cells.size = n := by rw [hzr.size]; exact hzl
 obtain ⟨us,hus,hfc⟩ := hsrc.cells
 have hfcw : ∀ w' : World,w'.heap = S.w.heap → (Builtin.firstCells n k xu).run P w' = .ok us w' := fun w' e => hfc w' fun c _ => by rw [e]
 have hnone : ∀ u ∈ us.toList,new.length = new.length → ZI new = true → u.oneCell' = true := fun u hu' _ hsc => by
  obtain ⟨j,hj,rfl⟩ := List.getElem_of_mem hu'
  have hj' : j < us.size := by simpa using hj
  have hjx : j < new.length := by rw [← hus.size]; exact hj'
  exact Ao (hus.get j new[j] _ (by simp [hjx]) (by simp [hj'])) (BO.1 hsc _ (List.getElem_mem _))
 unfold Ub at h
 split at h
 ·rename_i hc
  obtain ⟨c1,c2,c3⟩ := hc
  have hone : ∀ u ∈ us.toList,u.oneCell' = true := fun u hu' => hnone u hu' rfl c1
  split at h
  ·-- nil
   cases hs
   split at h
   ·rename_i hk0
    subst hk0
    simp at h
    obtain ⟨rfl,rfl⟩ := h
    exact ⟨S,_,rfl,rfl,Ext.refl S,hS,hr _ _ (QjQ hu hn hsrc ha0 ha1 ht0 ht1 (hfcw _ rfl)),.inl ⟨_,rfl,.nils⟩,Bd.refl _ _⟩
   ·rename_i hk0
    split at h
    ·rename_i hroom
     simp at h
     obtain ⟨rfl,rfl⟩ := h
     simp only [Vd,Bool.and_eq_true,decide_eq_true_eq] at hroom
     obtain ⟨cap,g1,g2⟩ := Qfh (oty := oty) (w := S.w) (old := #[]) hu hn i1 i2 z2 hsrc ha0 ha1 ht0 ht1 (by omega) (by rw [Nat.zero_add]; exact hroom) (fun w' e => by simp [Builtin.firstCells]) hfcw
     simp only [Nat.zero_add,Array.empty_append] at g1 g2
     refine Eg hS (Qd2 _ _) (cap := cap) (fun j y hj => ?_) c3 c2 ?_ g1 (Ry _) (hr _ _ g2)
     ·obtain ⟨u,k1,k2⟩ := hus.cellsRel j y hj
      have hlt := (Array.getElem?_eq_some_iff.1 k1).1
      exact ⟨u,by rw [Array.getElem?_append,if_pos hlt]; exact k1,k2⟩
     ·rw [Array.size_append,Qd0,hus.size,c2,hzsz,← Nat.add_mul]
      congr 1; omega
    ·simp at h
  ·-- a row
   rename_i i ver sz' off len
   cases hs with
   | rs _ _ _ _ _ ad cap hi hcap hh =>
   cases hg : Q0 S.H i with
   | none => simp [hg] at h
   | some b =>
    cases b with
    | row vv s' ag' cs =>
     simp only [hg] at h
     split at h
     ·rename_i hc
      obtain ⟨d1,d2,d3,d4,d5,d6,d7⟩ := hc
      subst d1 d2 d3 d4
      obtain ⟨_,e1⟩ := hh ver (by simp [Zj,hg,ZQ])
      obtain ⟨ag2,cs2,cells,el,fr,q1,q2,q3,q4⟩ := e1 rfl
      rw [hg] at q1; injection q1 with q1; injection q1 with _ _ _ q1; subst q1
      obtain ⟨cells',el',fr',g1,g2,g3,g4,g5⟩ := hS.blk i _ hg
      rw [q2] at g1; injection g1 with g1; injection g1 with g1 g1' g1''; subst g1 g1' g1''
      simp only [Vd,Bool.and_eq_true,decide_eq_true_eq] at d6
      have hli : S.live i := KB hg rfl
      have hlen : us.toList.length = k * sz' := by simp [hus.size,c2]
      have mulA : (off + len + k) * sz' = (off + len) * sz' + k * sz' := Nat.add_mul _ _ _
      have mulB : (off + len) * sz' = off * sz' + len * sz' := Nat.add_mul _ _ _
      have mulC : (off + cap) * sz' = off * sz' + cap * sz' := Nat.add_mul _ _ _
      have hk0 : k = 0 → us.toList = [] := fun e => List.eq_nil_of_length_eq_zero (by rw [hlen,e]; simp)
      have stored : len + k ≤ cap → ∃ (w' : World) (cells' : Array Value),(storeCells (ad.add (len * sz')) us.toList).run P S.w = .ok () w' ∧ Written S.w w' (S.ρ i) ∧ w'.heap[S.ρ i]? = some (.cells cells' el fr) ∧ cells'.size = cells.size ∧
        ∀ j,cells'[j]? = if (off + len) * sz' ≤ j ∧ j < (off + len) * sz' + us.toList.length then us.toList[j - (off + len) * sz']? else cells[j]? := by
       intro hneed
       by_cases hz0 : k = 0
       ·refine ⟨S.w,cells,by rw [hk0 hz0]; simp [storeCells],⟨rfl,fun _ _ => rfl,rfl,rfl,rfl⟩,q2,rfl,fun j => ?_⟩
        rw [hk0 hz0,if_neg (by simp)]
       ·have hcap0 : 0 < cap := by omega
        rw [q4 hcap0,addr_add]
        have hroom2 : (off + len) * sz' + us.toList.length ≤ cells.size := by
         rw [hlen,q3,← mulA]; exact Nat.mul_le_mul_right _ (by omega)
        obtain ⟨w',cells',r1,r2,r3,r4,r5⟩ := PR (P := P) q2 g4.1 (off * sz' + len * sz') us.toList 0 S.w cells q2 g4.1 hone (by omega)
        exact ⟨w',cells',r1,r2,r3,r4,fun j => by rw [r5]; simp only [Nat.add_zero,← mulB]⟩
      split at h
      ·-- it fits where it lies
       rename_i hfit
       simp at h
       obtain ⟨rfl,rfl⟩ := h
       have hfit2 : (off + len + k) * sz' ≤ (off + cap) * sz' := by rw [← q3]; omega
       have hneed : len + k ≤ cap := by have := Nat.le_of_mul_le_mul_right hfit2 c3; omega
       obtain ⟨w',cells',r1,r2,r3,r4,r5⟩ := stored hneed
       have hshape : sameShape S.w w' (S.ρ i) (.row ver sz' ag' cs) (.row ver sz' ag' (splice cs ((off + len) * sz') new)) := fun v sz ag cs2 eb => by
        simp at eb; obtain ⟨rfl,rfl,rfl,rfl⟩ := eb
        exact ⟨⟨_,rfl⟩,fun cells2 e2 fr2 q => by rw [q2] at q; injection q with q; injection q with q; subst q; exact ⟨cells',el,fr,r3,r4⟩⟩
       have hxe := BD hS (b' := .row ver sz' ag' (splice cs ((off + len) * sz') new)) hg rfl rfl r2 hshape
       have hsp : (off + len) * sz' + new.length ≤ cs.length := by rw [c2,← mulA]; exact hfit
       have hcr := XJ g5 hus hsp r5
       refine ⟨S.put i _ w',_,rfl,rfl,hxe,LY hS hg rfl rfl r2 hshape ⟨cells',el,fr,r3,by rw [Np hsp,r4]; exact g2,g3,by rw [r4]; exact g4,hcr.mono hxe⟩,hr _ _ (Qft hu hn hsrc ha0 ha1 ht0 ht1 hneed (hfcw _ rfl) r1),.inl ⟨_,rfl,?_⟩,Bd.set ?_⟩
       ·refine .rs _ _ _ _ _ _ _ (by simpa [Ctx.put] using hi) hneed fun v hv => ?_
        have hv' : v = ver := by simpa [Ctx.put,Zj,Kw _ hi,ZQ] using hv.symm
        subst hv'
        refine ⟨Nat.le_refl _,fun _ => ⟨ag',_,cells',el,fr,by simp only [Ctx.put]; rw [Kw _ hi],r3,by rw [r4]; exact q3,q4⟩⟩
       ·rcases NW d5 with hf | hf
        ·exact .inl hf
        ·exact .inr fun m hm hb => LL (hb _ hg) (by omega)
      ·rename_i hfit
       split at h
       ·rename_i hoff
        subst hoff
        simp at h
        obtain ⟨rfl,rfl⟩ := h
        simp only [Nat.zero_add,Nat.zero_mul] at *
        have hkpos : 0 < k := by
         rcases Nat.eq_zero_or_pos k with e | e
         ·subst e; simp at hfit; omega
         ·exact e
        have href : base ≤ i ∨ ∀ m,i < m → (∀ y,Q0 S.H i = some y → YX y ≤ m) → YX (.row (ver + 1) sz' ag' (cs.take (len * sz') ++ new)) ≤ m := by
         rcases NW d5 with hf | hf
         ·exact .inl hf
         ·exact .inr fun m hm hb => Dl.2 ⟨JF.2 fun x hx => JF.1 (hb _ hg) x (List.mem_of_mem_take hx),by omega⟩
        have htl : (cs.take (len * sz') ++ new).length = (len + k) * sz' := by
         rw [List.length_append,c2,Nat.add_mul,List.length_take]; omega
        by_cases hneed : len + k ≤ cap
        ·-- in its block
         obtain ⟨w',cells',r1,r2,r3,r4,r5⟩ := stored hneed
         have hxe := Al hS (b' := .row (ver + 1) sz' ag' (cs.take (len * sz') ++ new)) hg rfl rfl (Nat.lt_succ_self _) r2
         have hcr : Yx S (cs.take (len * sz') ++ new) cells' := fun j x hj => by
          rw [List.getElem?_append] at hj
          have l1 : (cs.take (len * sz')).length = len * sz' := by rw [List.length_take]; omega
          rw [l1] at hj
          rw [r5]
          split at hj
          ·rename_i hlt
           rw [if_neg (by omega)]
           rw [List.getElem?_take,if_pos hlt] at hj
           exact g5 j x hj
          ·rename_i hge
           have hlt : j - len * sz' < new.length := (List.getElem?_eq_some_iff.1 hj).1
           have hlu : us.toList.length = new.length := by simp [hus.size]
           rw [if_pos ⟨by omega,by omega⟩]
           obtain ⟨u,k1,k2⟩ := hus.cellsRel _ x hj
           exact ⟨u,by simpa using k1,k2⟩
         refine ⟨S.put i _ w',_,rfl,rfl,hxe,Qos hS hg rfl rfl (Nat.lt_succ_self _) r2 ⟨cells',el,fr,r3,by rw [htl,r4,q3]; exact Nat.mul_le_mul_right _ hneed,g3,by rw [r4]; exact g4,hcr.mono hxe⟩,hr _ _ (Qft hu hn hsrc ha0 ha1 ht0 ht1 hneed (hfcw _ rfl) r1),.inl ⟨_,rfl,?_⟩,Bd.set href⟩
         refine .rs _ _ _ _ _ _ _ (by simpa [Ctx.put] using hi) hneed fun v hv => ?_
         have hv' : v = ver + 1 := by simpa [Ctx.put,Zj,Kw _ hi,ZQ] using hv.symm
         subst hv'
         refine ⟨Nat.le_refl _,fun _ => ⟨ag',_,cells',el,fr,by simp only [Ctx.put]; rw [Kw _ hi],r3,by rw [r4,q3]; simp,fun hc => by rw [q4 hc]; simp [Ctx.put]⟩⟩
        ·-- in a new one
         have hfo : ∀ w' : World,w'.heap = S.w.heap → RelA S (cs.take (len * sz')) (cells.toList.take (len * sz')).toArray ∧ (Builtin.firstCells sz' len (.slice (some ad) len cap)).run P w' = .ok (cells.toList.take (len * sz')).toArray w' := by
          intro w' hw'
          refine ⟨⟨by simp; omega,fun j x u hj hu => ?_⟩,?_⟩
          ·rw [List.getElem?_take] at hj
           split at hj
           ·rename_i hlt
            obtain ⟨u',k1,k2⟩ := g5 j x hj
            simp [List.getElem?_take,hlt,k1] at hu
            subst hu; exact k2
           ·simp at hj
          ·by_cases hl0 : len = 0
           ·subst hl0; simp [Builtin.firstCells,loadCells,loadCellsFrom]
           ·have hld := run_loadCells_list (P := P) w' ad (cells.toList.take (len * sz')) (fun j u hj => by
             rw [List.getElem?_take] at hj
             split at hj
             ·rw [q4 (by omega),addr_add]
              simp only [World.cell?,hw',q2]
              simpa using hj
             ·simp at hj)
            have hl1 : (cells.toList.take (len * sz')).length = len * sz' := by simp; omega
            rw [hl1] at hld
            simp only [Builtin.firstCells,hld]
         have o1 := (hfo S.w rfl).1
         obtain ⟨cap',g1',g2'⟩ := Qfh (oty := oty) (w := S.w) (old := (cells.toList.take (len * sz')).toArray) hu hn i1 i2 z2 hsrc ha0 ha1 ht0 ht1 (by omega) d6 (fun w' e => (hfo w' e).2) hfcw
         have hp := Qd2 S.w (.cells ((cells.toList.take (len * sz')).toArray ++ us ++ Builtin.zeroCells zu.cells (cap' - (len + k))) e)
         have hsize : ((cells.toList.take (len * sz')).toArray ++ us ++ Builtin.zeroCells zu.cells (cap' - (len + k))).size = cap' * sz' := by
          rw [Array.size_append,Array.size_append,Qd0,hus.size,c2,hzsz]
          have : (cells.toList.take (len * sz')).toArray.size = len * sz' := by simp; omega
          rw [this,← Nat.add_mul,← Nat.add_mul]
          congr 1; omega
         have hxe := Dx hS (b' := .row (ver + 1) sz' ag' (cs.take (len * sz') ++ new)) hg rfl rfl (Nat.lt_succ_self _) hp
         have hcr : Yx S (cs.take (len * sz') ++ new) ((cells.toList.take (len * sz')).toArray ++ us ++ Builtin.zeroCells zu.cells (cap' - (len + k))) := fun j x hj => by
          obtain ⟨u,k1,k2⟩ := (o1.append hus).cellsRel j x hj
          have hlt := (Array.getElem?_eq_some_iff.1 k1).1
          exact ⟨u,by rw [Array.getElem?_append,if_pos hlt]; exact k1,k2⟩
         refine ⟨S.move i _ _,_,rfl,rfl,hxe,Qsa hS hg rfl rfl (Nat.lt_succ_self _) hp ⟨_,e,(0,0),hp.new,by rw [htl,hsize]; exact Nat.mul_le_mul_right _ g1',g3,Ry _,hcr.mono hxe⟩,hr _ _ g2',.inl ⟨_,rfl,?_⟩,Bd.set href⟩
         refine .rs _ _ _ _ _ _ _ (by simpa [Ctx.move] using hi) g1' fun v hv => ?_
         have hv' : v = ver + 1 := by simpa [Ctx.move,Zj,Kw _ hi,ZQ] using hv.symm
         subst hv'
         refine ⟨Nat.le_refl _,fun _ => ⟨ag',_,_,e,(0,0),by simp only [Ctx.move]; rw [Kw _ hi],by simp only [Ctx.move,upd_same]; exact hp.new,by rw [hsize]; simp,fun _ => by simp [Ctx.move]⟩⟩
       ·simp at h
     ·simp at h
    | _ => simp [hg] at h
  ·simp at h
 ·simp at h
theorem Qod (hS : Sim T S) (ht : Zv S t a.tmps) {base : Nat} {H' : Qa} {c : Call} (ho : o.op = .call c) (hc : c.callee = .builtin .append) (h : Z6 P base t S.H (.call c) = some (v,H')) : Y4 T P base S a o v H' := by
 simp only [Z6] at h
 ·simp only [hc] at h
  split at h
  ·rename_i ty ty2 s x e1 e2 e3 e4
   cases he : Yz P ty with
   | none => simp [he] at h
   | some e =>
   cases hs : Q5 P e with
   | none => simp [he,hs] at h
   | some n =>
   cases hg : Z9 P e with
   | none => simp [he,hs,hg] at h
   | some ag =>
   cases hb : K8 P e with
   | none => simp [he,hs,hg,hb] at h
   | some by_ =>
   cases hz : ZO P e with
   | none => simp [he,hs,hg,hb,hz] at h
   | some z =>
    simp only [he,hs,hg,hb,hz,Option.bind_some] at h
    split at h
    ·simp at h
    ·rename_i hcond
     have hzl : z.cells.length = n := by
      by_cases q : z.cells.length = n
      ·exact q
      ·exact absurd (.inl q) hcond
     have hzs : ZI z.cells = true := by
      cases q : ZI z.cells
      ·exact absurd (.inr q) hcond
      ·rfl
     have hu := RP he
     have ha0 : (c.args.map a.eval)[0]? = some (a.eval s) := by simp [e3]
     have ha1 : (c.args.map a.eval)[1]? = some (a.eval x) := by simp [e4]
     have hr : ∀ u w',(Builtin.append_ c.argTypes o.type (c.args.map a.eval)).run P S.w = .ok u w' → (execOp a.eval o).run P S.w = .ok (.value u) w' := by
      intro u w' hrun
      obtain ⟨bs,e'⟩ := Uz (P := P) (a := a) ho hc S.w
      rw [e']
      simp [builtin,hrun]
     split at h
     ·rename_i e2' hu2
      cases hk : Yr (env t x) with
      | none => simp [hk] at h
      | some k =>
       cases hcs : YR n S.H (env t x) with
       | none => simp [hk,hcs] at h
       | some new =>
        simp only [hk,hcs,Option.bind_some] at h
        exact Qhq hS hu hs hb hz hzl hzs (ZL ht s) (Qj7 hS (ZL ht x) hk hcs hu2) ha0 ha1 e1 e2 hr h
     ·rename_i hu2
      have hx := ZL ht x
      cases q : env t x <;> simp only [q] at h <;> try (simp at h; done)
      rw [q] at hx
      obtain ⟨bs,e5,rfl⟩ := V9 hx
      rw [e5] at ha1
      exact Qhq hS hu hs hb hz hzl hzs (ZL ht s) (Qi3 hu2 n) ha0 ha1 e1 e2 hr h
     ·simp at h
  ·simp at h
end Go.Ev
end
section
namespace Go.Ev
variable {T : ZT}
variable {P : Program} {S : Ctx} {t : List V} {a : Act} {o : Oper} {v : V}
theorem Qkk {xs : List V} {us : Array Value} (hx : RelA S xs us) (hs : ZI xs = true) : ∀ u ∈ us.toList,u.oneCell' = true := fun u hu => by
 obtain ⟨j,hj,rfl⟩ := List.getElem_of_mem hu
 have hj' : j < us.size := by simpa using hj
 have hjx : j < xs.length := by rw [← hx.size]; exact hj'
 exact Ao (hx.get j xs[j] _ (by simp [hjx]) (by simp [hj'])) (BO.1 hs _ (List.getElem_mem _))
theorem QgB (hS : Sim T S) {base i ver off : Nat} {H1 : Qa} {xs : List V} {us : Array Value} (hst : Bc base S.H i ver off xs = some H1) (hx : RelA S xs us) {ad : Addr}
  (had : ∀ v,Zj S.H i = some v → ver = v → ad = ⟨S.ρ i,off,none⟩) :
  ∃ S' : Ctx,(storeCells ad us.toList).run P S.w = .ok () S'.w ∧ S'.H = H1 ∧ S'.Z = S.Z ∧ Ext S S' ∧ Sim T S' ∧ Bd base S.H H1 := by
 unfold Bc at hst
 split at hst
 ·rename_i hc
  obtain ⟨c2,hfit⟩ := hc
  have hone := Qkk hx c2
  have hxs := hx.size
  have main : ∀ (ga : Bool) (b b' : Blk) (cs : List V),Q0 S.H i = some b → ZQ b = some ver → ZQ b' = ZQ b → (∀ S' : Ctx,∀ (cells : Array Value) (e : TypeId) (fr : Nat × Nat),S'.w.heap[S.ρ i]? = some (.cells cells e fr) → Un ga cells.size fr →
     (∃ cells0,S.w.heap[S.ρ i]? = some (.cells cells0 e fr) ∧ cells0.size = cells.size) → Yx S' (splice cs off xs) cells → J4 S' (S.ρ i) b') →
    (∃ cells e fr,S.w.heap[S.ρ i]? = some (.cells cells e fr) ∧ cs.length ≤ cells.size ∧ Un ga cells.size fr ∧ Yx S cs cells) → off + xs.length ≤ cs.length →
    (∀ v sz ag cs,b = .row v sz ag cs → ∃ cs',b' = .row v sz ag cs') → (∀ m,YX b ≤ m → Yd xs ≤ m → YX b' ≤ m) →
    ZV S.H i b' = H1 → ∃ S' : Ctx,(storeCells ad us.toList).run P S.w = .ok () S'.w ∧ S'.H = H1 ∧ S'.Z = S.Z ∧ Ext S S' ∧ Sim T S' ∧ Bd base S.H H1 := by
   intro ga b b' cs hg hver hver' hbr hcells hle hrow href hH
   subst hH
   obtain ⟨cells,e,fr,g1,g2,g3,g4⟩ := hcells
   have e2 := had ver (by simp [Zj,hg,hver]) rfl
   subst e2
   obtain ⟨w',cells',r1,r2,r3,r4,r5⟩ := PR (P := P) g1 g3.1 off us.toList 0 S.w cells g1 g3.1 hone (by simp [hxs]; omega)
   have hshape : sameShape S.w w' (S.ρ i) b b' := fun v sz ag cs2 eb => ⟨hrow v sz ag cs2 eb,fun cells2 e2 fr2 q => by
    rw [g1] at q; injection q with q; injection q with q1 q2 q3; subst q1 q2 q3
    exact ⟨cells',e,fr,r3,r4⟩⟩
   have hxe := BD hS hg hver' (by simp [hver]) r2 hshape
   have hcr : Yx S (splice cs off xs) cells' := XJ g4 hx hle (by simpa using r5)
   refine ⟨S.put i b' w',r1,rfl,rfl,hxe,LY hS hg hver' (by simp [hver]) r2 hshape (hbr _ cells' e fr r3 (by rw [r4]; exact g3) ⟨cells,g1,r4.symm⟩ (hcr.mono hxe)),Bd.set ?_⟩
   rcases NW hfit with hf | hf
   ·exact .inl hf
   ·exact .inr fun m hm hb => href m (hb _ hg) (by omega)
  split at hst
  ·rename_i cs hg
   split at hst
   ·rename_i hc3
    obtain ⟨rfl,hle⟩ := hc3
    simp at hst
    obtain ⟨cells,e,fr,g1,g2,g3,g4⟩ := hS.blk i _ hg
    refine main true (.var cs) (.var (splice cs off xs)) cs hg rfl rfl (fun S' cells' e' fr' q1 q2 q3 q4 => ?_) ⟨cells,e,fr,g1,by omega,g3,g4⟩ hle (fun v sz ag cs2 eb => by simp at eb) (fun m h1 h2 => ?_) hst
    ·obtain ⟨cells0,p1,p2⟩ := q3
     rw [g1] at p1; injection p1 with p1; injection p1 with p1 p3 p4; subst p1
     exact ⟨cells',e',fr',q1,by rw [← p2,g2,Np hle],q2,q4⟩
    ·exact LL h1 h2
   ·simp at hst
  ·rename_i vv sz ag cs hg
   split at hst
   ·rename_i hc3
    obtain ⟨rfl,hle⟩ := hc3
    simp at hst
    obtain ⟨cells,e,fr,g1,g2,g3,g4,g5⟩ := hS.blk i _ hg
    refine main ag (.row ver sz ag cs) (.row ver sz ag (splice cs off xs)) cs hg rfl rfl (fun S' cells' e' fr' q1 q2 q3 q4 => ?_) ⟨cells,e,fr,g1,g2,g4,g5⟩ hle (fun v sz ag cs2 eb => by simp at eb; obtain ⟨rfl,rfl,rfl,rfl⟩ := eb; exact ⟨_,rfl⟩) (fun m h1 h2 => ?_) hst
    ·obtain ⟨cells0,p1,p2⟩ := q3
     rw [g1] at p1; injection p1 with p1; injection p1 with p1 p3 p4; subst p1
     exact ⟨cells',e',fr',q1,by rw [← p2,Np hle]; exact g2,g3,q2,q4⟩
    ·exact LL h1 h2
   ·simp at hst
  ·simp at hst
 ·simp at hst
theorem TG {i ver sz off n : Nat} {u : Value} (h : Rel S (.rs i ver sz off n) u) (h0 : 0 < n) : ∃ ad cap,u = .slice (some ad) n cap ∧ ∀ v,Zj S.H i = some v → ver = v → ad = ⟨S.ρ i,off * sz,none⟩ := by
 cases h with
 | rs _ _ _ _ _ ad cap hi hcap hh =>
  refine ⟨ad,cap,rfl,fun v hv e => ?_⟩
  obtain ⟨_,h2⟩ := hh v hv
  obtain ⟨ag,cs,cells,el,fr,g1,g2,g3,g4⟩ := h2 e
  exact g4 (by omega)
theorem Qsm {z : List V} {zu : Array Value} (h : RelA S z zu) (n : Nat) : RelA S (Jd n z) (Builtin.zeroCells zu n) := by
 have := Ey h n
 rw [← h.size] at this
 exact this
theorem Qmi (hS : Sim T S) (ht : Zv S t a.tmps) {base : Nat} {H' : Qa} {c : Call} (ho : o.op = .call c) (hc : c.callee = .builtin .clear) {ty e : TypeId} {x : Operand} {n : Nat} {z : V} (e1 : c.argTypes[0]? = some ty) (e2 : c.args[0]? = some x)
  (he : Yz P ty = some e) (hn : Q5 P e = some n) (hz : ZO P e = some z) (h : GV base S.H n z.cells (env t x) = some (v,H')) : Y4 T P base S a o v H' := by
 have hu := RP he
 have hx := ZL ht x
 have ha0 : (c.args.map a.eval)[0]? = some (a.eval x) := by simp [e2]
 generalize a.eval x = xu at hx ha0
 have hr : ∀ w',(Builtin.clear_ c.argTypes o.type (c.args.map a.eval)).run P S.w = .ok (.tuple #[]) w' → (execOp a.eval o).run P S.w = .ok (.value (.tuple #[])) w' := by
  intro w' hrun
  obtain ⟨bs,e'⟩ := Uz (P := P) (a := a) ho hc S.w
  rw [e']
  simp [builtin,hrun]
 have none_ : (Builtin.clear_ c.argTypes o.type (c.args.map a.eval)).run P S.w = .ok (.tuple #[]) S.w → some ((.tup [] : V),S.H) = some (v,H') → Y4 T P base S a o v H' := by
  intro hrun hv
  simp only [Option.some.injEq,Prod.mk.injEq] at hv
  obtain ⟨rfl,rfl⟩ := hv
  exact ⟨S,_,rfl,rfl,Ext.refl S,hS,hr _ hrun,.inl ⟨_,rfl,.tup [] #[] rfl (fun j x u hj => by simp at hj)⟩,Bd.refl _ _⟩
 unfold GV at h
 split at h
 ·rename_i hxe
  rw [hxe] at hx
  cases hx
  exact none_ (by simp [Builtin.clear_,e1,ha0,run_underlying hu]) h
 ·rename_i hxe
  rw [hxe] at hx
  cases hx with
  | vs _ ad l cap c off sz us hl hcap =>
   simp at hl
   subst hl
   exact none_ (by cases ad <;> simp [Builtin.clear_,e1,ha0,run_underlying hu]) h
 ·rename_i i ver sz' off m hxe
  rw [hxe] at hx
  split at h
  ·rename_i hcond
   obtain ⟨rfl,hzl⟩ := hcond
   split at h
   ·rename_i h0
    subst h0
    cases hx
    exact none_ (by simp [Builtin.clear_,e1,ha0,run_underlying hu]) h
   ·rename_i h0
    cases hst : Bc base S.H i ver (off * sz') (Jd m z.cells) with
    | none => simp [hst] at h
    | some H1 =>
     simp [hst] at h
     obtain ⟨rfl,rfl⟩ := h
     obtain ⟨ad,cap,rfl,hadr⟩ := TG hx (by omega)
     obtain ⟨zu,z1,z2⟩ := Wr hz S
     have hsc : ZI z.cells = true := by
      have : ZI (Jd m z.cells) = true := by
       unfold Bc at hst
       split at hst
       ·rename_i hc2; exact hc2.1
       ·simp at hst
      obtain ⟨m,rfl⟩ : ∃ k,m = k + 1 := ⟨m - 1,by omega⟩
      rw [Jd] at this
      exact BO.2 fun y hy => BO.1 this y (List.mem_append_left _ hy)
     obtain ⟨S',r1,r2,r3,r4,r5,r6⟩ := QgB (P := P) hS hst (Qsm (z1.cells hsc) m) hadr
     refine ⟨S',_,r2,r3,r4,r5,hr S'.w ?_,.inl ⟨_,rfl,.tup [] #[] rfl (fun j x u hj => by simp at hj)⟩,r6⟩
     obtain ⟨m,rfl⟩ : ∃ k,m = k + 1 := ⟨m - 1,by omega⟩
     simp [Builtin.clear_,e1,ha0,run_underlying hu,z2,r1]
  ·simp at h
 ·simp at h
theorem QcL {n k m : Nat} {ty2 : TypeId} {x : V} {xu : Value} {new : List V} (hS : Sim T S) (hx : Rel S x xu) (hk : Yr x = some k) (hc : YR n S.H x = some new) (hm : m ≤ k) :
  ∃ us : Array Value,RelA S (new.take (m * n)) us ∧ (Builtin.firstCells n m xu).run P S.w = .ok us S.w := by
 obtain ⟨hl,p,cap,rfl,hz,hcell⟩ := Ml hS hx hk hc
 have hle : m * n ≤ k * n := Nat.mul_le_mul_right _ hm
 cases p with
 | none =>
  have := hz rfl
  subst this
  exact ⟨#[],⟨by simp,fun j x u hj => by simp at hj⟩,by simp [Builtin.firstCells]⟩
 | some ad =>
  have hex : ∃ us : Nat → Value,∀ (j : Nat) (y : V),new[j]? = some y → S.w.cell? (ad.add j) = some (us j) ∧ Rel S y (us j) := by
   refine ⟨fun j => (S.w.cell? (ad.add j)).getD undef,fun j y hj => ?_⟩
   obtain ⟨u',k1,k2⟩ := hcell ad rfl j y hj
   simp [k1,k2]
  obtain ⟨us,hus⟩ := hex
  refine ⟨((List.range (m * n)).map us).toArray,⟨by rw [List.length_take,hl,Nat.min_eq_left hle]; simp,fun j y u hj hu => ?_⟩,?_⟩
  ·rw [List.getElem?_take] at hj
   split at hj
   ·rename_i hlt
    simp [hlt] at hu
    subst hu
    exact (hus j y hj).2
   ·simp at hj
  ·have hld := run_loadCells (P := P) S.w ad (m * n) us (fun j hj => (hus j new[j] (by simp [List.getElem?_eq_getElem (show j < new.length by omega)])).1)
   simp only [Builtin.firstCells,hld]
theorem Qpk (hS : Sim T S) (ht : Zv S t a.tmps) {base : Nat} {H' : Qa} {c : Call} (ho : o.op = .call c) (hc : c.callee = .builtin .copy) {ty e : TypeId} {d x : Operand} {n k : Nat} {new : List V} (e1 : c.argTypes[0]? = some ty) (e2 : c.args[0]? = some d) (e3 : c.args[1]? = some x)
  (he : Yz P ty = some e) (hn : Q5 P e = some n) (hk : Yr (env t x) = some k) (hcs : YR n S.H (env t x) = some new) (h : copyV base S.H n new k (env t d) = some (v,H')) : Y4 T P base S a o v H' := by
 have hu := RP he
 have hd := ZL ht d
 have hx := ZL ht x
 have ha0 : (c.args.map a.eval)[0]? = some (a.eval d) := by simp [e2]
 have ha1 : (c.args.map a.eval)[1]? = some (a.eval x) := by simp [e3]
 generalize a.eval d = du at hd ha0
 generalize a.eval x = xu at hx ha1
 generalize env t x = xv at hx hk hcs
 have hlen : ∀ w : World,(Builtin.lenOf xu).run P w = .ok k w := by
  obtain ⟨hl,p,cap,rfl,hz,hcell⟩ := Ml hS hx hk hcs
  intro w; simp [Builtin.lenOf]
 have hr : ∀ u w',(Builtin.copy_ c.argTypes o.type (c.args.map a.eval)).run P S.w = .ok u w' → (execOp a.eval o).run P S.w = .ok (.value u) w' := by
  intro u w' hrun
  obtain ⟨bs,e'⟩ := Uz (P := P) (a := a) ho hc S.w
  rw [e']
  simp [builtin,hrun]
 have none_ : (Builtin.copy_ c.argTypes o.type (c.args.map a.eval)).run P S.w = .ok (.int .i64 0) S.w → some ((.int .i64 0 : V),S.H) = some (v,H') → Y4 T P base S a o v H' := by
  intro hrun hv
  simp only [Option.some.injEq,Prod.mk.injEq] at hv
  obtain ⟨rfl,rfl⟩ := hv
  exact ⟨S,_,rfl,rfl,Ext.refl S,hS,hr _ _ hrun,.inl ⟨_,rfl,.int _ _⟩,Bd.refl _ _⟩
 have zero_ : ∀ (ad : Option Addr) (l cap : Nat),du = .slice ad l cap → min k l = 0 → (Builtin.copy_ c.argTypes o.type (c.args.map a.eval)).run P S.w = .ok (.int .i64 0) S.w := by
  intro ad l cap hdu hmin
  subst hdu
  obtain ⟨us,q1,q2⟩ := QcL (P := P) (ty2 := ty) hS hx hk hcs (Nat.zero_le k)
  have hus : us = #[] := by
   have := q1.size
   simp at this
   exact this
  subst hus
  simp [Builtin.copy_,e1,ha0,ha1,run_underlying hu,hlen,Nat.min_def,YC hn]
  have hm : (if k ≤ l then k else l) = 0 := by rw [Nat.min_def] at hmin; exact hmin
  rw [hm]
  rw [q2]
  cases ad <;> simp [storeCells,goInt]
 unfold copyV at h
 split at h
 ·rename_i hxe
  rw [hxe] at hd
  cases hd
  exact none_ (zero_ _ _ _ rfl (by simp)) h
 ·rename_i hxe
  rw [hxe] at hd
  cases hd with
  | vs _ ad l cap c off sz us hl hcap =>
   simp at hl
   subst hl
   exact none_ (zero_ _ _ _ rfl (by simp)) h
 ·rename_i i ver sz' off m hxe
  rw [hxe] at hd
  split at h
  ·rename_i hcond
   subst hcond
   split at h
   ·rename_i h0
    cases hd
    exact none_ (zero_ _ _ _ rfl h0) h
   ·rename_i h0
    cases hst : Bc base S.H i ver (off * sz') (new.take (min k m * sz')) with
    | none => simp [hst] at h
    | some H1 =>
     simp [hst] at h
     obtain ⟨rfl,rfl⟩ := h
     obtain ⟨ad,cap,rfl,hadr⟩ := TG hd (by omega)
     obtain ⟨us,q1,q2⟩ := QcL (P := P) (ty2 := ty) hS hx hk hcs (Nat.min_le_left k m)
     obtain ⟨S',r1,r2,r3,r4,r5,r6⟩ := QgB (P := P) hS hst q1 hadr
     refine ⟨S',_,r2,r3,r4,r5,hr _ S'.w ?_,.inl ⟨_,rfl,.int _ _⟩,r6⟩
     simp [Builtin.copy_,e1,ha0,ha1,run_underlying hu,hlen,YC hn]
     rw [show Nat.min k m = min k m from rfl,q2]
     simp [r1,goInt]
  ·simp at h
 ·simp at h
theorem Qp0 (hS : Sim T S) (ht : Zv S t a.tmps) {base : Nat} {H' : Qa} {c : Call} (ho : o.op = .call c) (h : Z6 P base t S.H (.call c) = some (v,H')) : Y4 T P base S a o v H' := by
 cases hc : c.callee with
 | value f => simp [Z6,hc] at h
 | invoke r m => simp [Z6,hc] at h
 | builtin b =>
  cases b <;> first
   | exact Qod hS ht ho hc h
   | (simp [Z6,hc] at h; done)
   | skip
  ·simp only [Z6,hc] at h
   split at h
   ·rename_i ty x e1 e2
    cases he : Yz P ty with
    | none => simp [he] at h
    | some e =>
    cases hn : Q5 P e with
    | none => simp [he,hn] at h
    | some n =>
    cases hz : ZO P e with
    | none => simp [he,hn,hz] at h
    | some z =>
    simp only [he,hn,hz,Option.bind_some] at h
    exact Qmi hS ht ho hc e1 e2 he hn hz h
   ·simp at h
  ·simp only [Z6,hc] at h
   split at h
   ·rename_i ty d x e1 e2 e3
    cases he : Yz P ty with
    | none => simp [he] at h
    | some e =>
    cases hn : Q5 P e with
    | none => simp [he,hn] at h
    | some n =>
    cases hk : Yr (env t x) with
    | none => simp [he,hn,hk] at h
    | some k =>
    cases hcs : YR n S.H (env t x) with
    | none => simp [he,hn,hk,hcs] at h
    | some new =>
    simp only [he,hn,hk,hcs,Option.bind_some] at h
    exact Qpk hS ht ho hc e1 e2 e3 he hn hk hcs h
   ·simp at h
theorem Qja (hS : Sim T S) (ht : Zv S t a.tmps) {base : Nat} {H' : Qa} {ty : TypeId} {x : Operand} {lo hi mx : Option Operand} (ho : o.op = .slice ty x lo hi mx)
  (h : Z6 P base t S.H (.slice ty x lo hi mx) = some (v,H')) : Y4 T P base S a o v H' := by
 have hx := ZL ht x
 have r1 := RY ht lo
 have r2 := RY ht hi
 have r3 := RY ht mx
 simp only [Z6] at h
 generalize hxe : a.eval x = u at hx
 generalize env t x = xv at hx h
 generalize lo.map (env t) = lv at r1 h
 generalize hi.map (env t) = hv at r2 h
 generalize mx.map (env t) = mv at r3 h
 split at h
 ·rename_i len e hu
  cases hn : Q5 P e with
  | none => simp [hn] at h
  | some n =>
  cases hag : Z9 P e with
  | none => simp [hn,hag] at h
  | some ag =>
  simp only [hn,hag,Option.bind_some] at h
  unfold DW at h
  split at h
  ·rename_i i ver off
   split at h
   ·rename_i cs hg
    split at h
    ·rename_i hc
     obtain ⟨rfl,rfl,hl,hn0,hmx⟩ := hc
     have hmv : mv = none := by simpa using hmx
     subst hmv
     cases hb1 : ZF 0 len hv len with
     | none => simp [hb1] at h
     | some hh =>
     cases hb2 : ZF 0 hh lv 0 with
     | none => simp [hb1,hb2] at h
     | some ll =>
     simp only [hb1,hb2,Option.bind_some,Option.some.injEq,Prod.mk.injEq] at h
     obtain ⟨rfl,rfl⟩ := h
     obtain ⟨b1,b2,b3,b4⟩ := RI (P := P) (isS := false) (len := len) (cap := len) (lim := len) (m := len) r1 r2 r3 (.inl ⟨rfl,rfl,Nat.le_refl _⟩) (by simpa using hb1) (fun e => by subst e; simpa [ZF] using hb1.symm) hb2
     have hhl : hh ≤ len := by
      cases hv with
      | none => simp [ZF] at hb1; omega
      | some y => simpa using b2 rfl
     obtain ⟨cells,el,fr,g1,g2,g3,g4⟩ := hS.blk i _ hg
     cases hx with
     | ptr _ _ _ ad hi' hh' =>
     have had : ad = ⟨S.ρ i,0,none⟩ := (hh' 0 (by simp [Zj,hg,ZQ])).2 rfl
     subst had
     have hwr : Written S.w S.w (S.ρ i) := ⟨rfl,fun _ _ => rfl,rfl,rfl,rfl⟩
     have hshape : sameShape S.w S.w (S.ρ i) (.var cs) (.row 0 n ag cs) := fun v sz ag' cs2 eb => by cases eb
     have hxe' := BD hS hg (b' := .row 0 n ag cs) rfl rfl hwr hshape
     refine ⟨S.put i (.row 0 n ag cs) S.w,.value (.slice (some (if len = ll then ⟨S.ρ i,0,none⟩ else (⟨S.ρ i,0,none⟩ : Addr).add (ll * n))) (hh - ll) (len - ll)),rfl,rfl,hxe',LY hS hg rfl rfl hwr hshape ⟨cells,el,fr,g1,by omega,hn0,⟨g3.1,fun _ => g3.2 rfl⟩,g4.mono hxe'⟩,?_,.inl ⟨_,rfl,?_⟩,Bd.set (.inr fun m _ hb => show YX (.row 0 n ag cs) ≤ m from hb (.var cs) hg)⟩
     ·simp only [execOp,ho,hxe,Instr.sliceAt,Zo hu,Sem.run_bind,Result.andThen_ok,Instr.sureAddr,Sem.run_pure,b4,YC hn]
      rfl
     ·refine .rs i 0 n ll (hh - ll) _ (len - ll) (by simpa [Ctx.put] using hi') (by omega) fun v hv => ?_
      have hv0 : v = 0 := by
       rw [show (S.put i (.row 0 n ag cs) S.w).H = ZV S.H i (.row 0 n ag cs) from rfl,Nr (b := .var cs) (b' := .row 0 n ag cs) hg rfl] at hv
       simpa [Zj,hg,ZQ] using hv.symm
      subst hv0
      refine ⟨Nat.le_refl _,fun _ => ⟨ag,cs,cells,el,fr,by simp [Ctx.put,Kw _ hi'],g1,?_,fun h0 => ?_⟩⟩
      ·rw [g2,hl]; congr 1; omega
      ·rw [if_neg (by omega),addr_add]; simp [Ctx.put]
    ·simp at h
   ·simp at h
  ·simp at h
 ·simp at h
theorem Qai (hS : Sim T S) (ht : Zv S t a.tmps) {base : Nat} {H' : Qa} (h : Z6 P base t S.H o.op = some (v,H')) : Y4 T P base S a o v H' := by
 cases ho : o.op <;> rw [ho] at h <;> first
  | exact Qko hS ho h
  | exact Qqy hS ht ho h
  | exact QpT hS ht ho h
  | exact Qq0 hS ht ho h
  | exact Qh9 hS ht ho h
  | exact Qru hS ht ho h
  | exact Tn hS ht (.inl ho) (by simpa [Z6] using h)
  | exact Tn hS ht (.inr ho) (by simpa [Z6] using h)
  | exact QkB hS ht ho h
  | exact Qja hS ht ho h
  | exact Qp0 hS ht ho h
  | (simp [Z6] at h)
end Go.Ev
end
section
namespace Go.Ev
variable {T : ZT}
variable {P : Program} {S : Ctx} {t : List V} {a : Act} {o : Oper} {v : V}
theorem Pq : ∀ l : List V,Wc l = l.map V.nrm
 | [] => rfl
 | v :: l => by simp [Wc,Pq l]
theorem AS {v : V} {u : Value} (h : Rel S v u) : Rel S v.nrm u := by
 induction h with
 | emp a => exact .emp a
 | nils => exact .vs [] none 0 0 0 0 0 (fun _ => undef) rfl (Nat.le_refl _) rfl (fun h => absurd rfl h) (fun i x h => by simp at h) (fun i x j y h => by simp at h) (fun i x j y h => by simp at h)
 | agg cs us hl h2 ih =>
  simp only [V.nrm,Pq]
  refine .agg _ _ (by simpa using hl) fun j x u hj hu => ?_
  rw [List.getElem?_map] at hj
  cases hc : cs[j]? with
  | none => rw [hc] at hj; simp at hj
  | some y => rw [hc] at hj; simp at hj; subst hj; exact ih j y u hc hu
 | tup cs us hl h2 ih =>
  simp only [V.nrm,Pq]
  refine .tup _ _ (by simpa using hl) fun j x u hj hu => ?_
  rw [List.getElem?_map] at hj
  cases hc : cs[j]? with
  | none => rw [hc] at hj; simp at hj
  | some y => rw [hc] at hj; simp at hj; subst hj; exact ih j y u hc hu
 | iface t v u h ih => exact .iface t _ u ih
 | junk u => exact .junk u
 | bool b => exact .bool b
 | int k n => exact .int k n
 | str bs => exact .str bs
 | nilptr => exact .nilptr
 | ptr i ver off a hi h => exact .ptr i ver off a hi h
 | fptr cs c off us hf hc hcl h1 h2 _ => exact .fptr cs c off us hf hc hcl h1 h2
 | vs xs a n cap c off sz us hn hcap hcl ha hsz h1 h2 _ => exact .vs xs a n cap c off sz us hn hcap hcl ha hsz h1 h2
 | rs i ver sz off n a cap hi hcap h => exact .rs i ver sz off n a cap hi hcap h
 | fn f cap us hl h2 _ => exact .fn f cap us hl h2
 | nilfn => exact .nilfn
 | niface => exact .niface
 | nilmap => exact .nilmap
 | mapr i c hi h => exact .mapr i c hi h
theorem GG (v : V) : v.nrm.cells = v.cells.map V.nrm := by
 cases v <;> simp [V.nrm,V.cells,Pq]
structure RelE (S : Ctx) (n : Nat) (xs : List V) (us : Array Value) : Prop where
 size : us.size = xs.length * n
 len : ∀ (i : Nat) (x : V),xs[i]? = some x → x.cells.length = n
 get : ∀ (i : Nat) (x : V) (j : Nat) (y : V),xs[i]? = some x → x.cells[j]? = some y → ∃ u,us[i * n + j]? = some u ∧ Rel S y u
theorem Qm7 {n len : Nat} {ps : List (Nat × V)} {qs : List (Nat × Value)} (hr : RelP S ps qs) : ∀ {xs : List V} {us : Array Value},xs.length = len → RelE S n xs us → U4 n len ps = true →
  ∃ us',Instr.fill (fun i => some (i * n,n)) us qs = some us' ∧ RelE S n (VR xs ps) us' ∧ (VR xs ps).length = len := by
 induction hr with
 | nil => intro xs us hl h _; exact ⟨us,rfl,h,hl⟩
 | cons i v u ps qs hv r ih =>
  intro xs us hl h hok
  simp only [U4,Bool.and_eq_true,decide_eq_true_eq,beq_iff_eq] at hok
  obtain ⟨⟨⟨⟨o1,o2⟩,o3⟩,o4⟩,o5⟩ := hok
  have hc := hv.cells o3
  have hmul : i * n + n ≤ us.size := by
   rw [h.size,hl]
   have : (i + 1) * n ≤ len * n := Nat.mul_le_mul_right _ o1
   rw [Nat.add_mul] at this; omega
  have ecells : u.cells.zipIdx.foldl (fun cs (c,j) => cs.setIfInBounds (i * n + j) c) us = (u.cells.toList.zipIdx 0).foldl (fun cs (x : Value × Nat) => cs.setIfInBounds (i * n + x.2) x.1) us := by
   rw [← Array.foldl_toList,Array.toList_zipIdx]
  have hul : u.cells.toList.length = n := by simp [hc.size,o2]
  have hnew : RelE S n (xs.set i v.nrm) (u.cells.zipIdx.foldl (fun cs (c,j) => cs.setIfInBounds (i * n + j) c) us) := by
   rw [ecells]
   refine ⟨by rw [EW,h.size]; simp,fun k x hk => ?_,fun k x j y hk hj => ?_⟩
   ·rw [List.getElem?_set] at hk
    split at hk
    ·split at hk
     ·simp at hk; subst hk; rw [GG]; simp [o2]
     ·simp at hk
    ·exact h.len k x hk
   ·rw [EN]
    simp only [Nat.add_zero,hul]
    rw [List.getElem?_set] at hk
    by_cases c : i = k
    ·subst c
     rw [if_pos rfl] at hk
     split at hk
     ·simp at hk
      subst hk
      rw [GG,List.getElem?_map] at hj
      cases hvj : v.cells[j]? with
      | none => rw [hvj] at hj; simp at hj
      | some z =>
       rw [hvj] at hj; simp at hj; subst hj
       have hjn : j < n := by rw [← o2]; exact (List.getElem?_eq_some_iff.1 hvj).1
       rw [if_pos ⟨by omega,by omega,by omega⟩]
       have : i * n + j - i * n = j := by omega
       rw [this]
       obtain ⟨u',k1,k2⟩ := hc.cellsRel j z hvj
       exact ⟨u',by simpa using k1,AS k2⟩
     ·simp at hk
    ·rw [if_neg c] at hk
     have hjn : j < n := by rw [← h.len k x hk]; exact (List.getElem?_eq_some_iff.1 hj).1
     have hout : ¬ (i * n ≤ k * n + j ∧ k * n + j < i * n + n ∧ k * n + j < us.size) := by
      rintro ⟨a1,a2,_⟩
      rcases Nat.lt_or_gt_of_ne c with g | g
      ·have : (i + 1) * n ≤ k * n := Nat.mul_le_mul_right _ g
       rw [Nat.add_mul] at this; omega
      ·have : (k + 1) * n ≤ i * n := Nat.mul_le_mul_right _ g
       rw [Nat.add_mul] at this; omega
     rw [if_neg hout]
     exact h.get k x j y hk hj
  obtain ⟨us',f1,f2,f3⟩ := ih (xs := xs.set i v.nrm) (by simpa using hl) hnew o5
  refine ⟨us',?_,f2,f3⟩
  simp only [Instr.fill]
  rw [if_neg (by have := hc.size; simp; omega)]
  exact f1
theorem Qe0 {n len : Nat} : ∀ {ps : List (Nat × V)} {xs : List V},Zd xs = true → U4 n len ps = true → Zd (VR xs ps) = true
 | [],xs,h,_ => h
 | (i,x) :: ps,xs,h,hok => by
  simp only [U4,Bool.and_eq_true,decide_eq_true_eq,beq_iff_eq] at hok
  obtain ⟨⟨⟨⟨o1,o2⟩,o3⟩,o4⟩,o5⟩ := hok
  show Zd (VR (xs.set i x.nrm) ps) = true
  refine Qe0 (Jh.2 fun y hy => ?_) o5
  rcases List.mem_or_eq_of_mem_set hy with hy | rfl
  ·exact Jh.1 h y hy
  ·exact o4
theorem QsJ (hS : Sim T S) (ht : Zv S t a.tmps) (h : KN P t o.op = some v) : ∃ w' u,Grew S.w w' ∧ (execOp a.eval o).run P S.w = .ok (.value u) w' ∧ Rel (S.at w') v u := by
 cases ho : o.op <;> rw [ho] at h <;> try (simp [KN] at h; done)
 rename_i ty len parts
 simp only [KN] at h
 cases he : Yz P ty with
 | none => simp [he] at h
 | some e =>
 cases hs : Q5 P e with
 | none => simp [he,hs] at h
 | some n =>
 cases hz : ZO P e with
 | none => simp [he,hs,hz] at h
 | some z =>
  simp only [he,hs,hz,Option.bind_some] at h
  split at h
  ·rename_i hc
   obtain ⟨c1,c2,c3,c4,c5,c6⟩ := hc
   simp only [Option.some.injEq] at h
   subst h
   obtain ⟨zu,z1,z2⟩ := Wr hz S
   have hu := RP he
   have hzr := z1.cells c4
   have hzsz : zu.cells.size = n := by rw [hzr.size]; exact c3
   have hq : (parts.map fun (i,x) => (i,a.eval x)).toList = parts.toList.map fun (i,x) => (i,a.eval x) := by simp
   have hstart : RelE S n (List.replicate len z.nrm) ((Array.range (len * n)).map (zu.cells[· % zu.cells.size]!)) := by
    refine ⟨by simp,fun i x hi => ?_,fun i x j y hi hj => ?_⟩
    ·rw [List.getElem?_replicate] at hi
     split at hi
     ·simp at hi; subst hi; rw [GG]; simp [c3]
     ·simp at hi
    ·rw [List.getElem?_replicate] at hi
     split at hi
     ·rename_i hlt
      simp at hi; subst hi
      rw [GG,List.getElem?_map] at hj
      cases hzj : z.cells[j]? with
      | none => rw [hzj] at hj; simp at hj
      | some y' =>
       rw [hzj] at hj; simp at hj; subst hj
       have hjn : j < n := by rw [← c3]; exact (List.getElem?_eq_some_iff.1 hzj).1
       obtain ⟨u',k1,k2⟩ := hzr.cellsRel j y' hzj
       have hlen : i * n + j < len * n := by
        have : (i + 1) * n ≤ len * n := Nat.mul_le_mul_right _ hlt
        rw [Nat.add_mul] at this; omega
       refine ⟨u',?_,AS k2⟩
       have hm : (i * n + j) % n = j := by rw [Nat.mul_comm,Nat.mul_add_mod]; exact Nat.mod_eq_of_lt hjn
       have hjz : j < zu.cells.size := by rw [hzsz]; exact hjn
       have : zu.cells[j] = u' := by simpa [hjz] using k1
       have hm2 : j % n = j := Nat.mod_eq_of_lt hjn
       have h3 : zu.cells[j]! = u' := by rw [getElem!_pos zu.cells j hjz]; exact this
       simp [hlen,hzsz,hm2,h3]
     ·simp at hi
   obtain ⟨us,f1,f2,f3⟩ := Qm7 (GK ht parts.toList) (by simp) hstart c6
   have hp : Pushed S.w (S.w.alloc (.cells us e)) (.cells us e) := ⟨rfl,rfl,rfl,rfl⟩
   have hgr := hp.grew
   have hx := W9 hS hgr
   refine ⟨_,.slice (some ⟨S.w.heap.size,0,none⟩) len len,hgr,?_,?_⟩
   ·have hno : ¬ len * n > 2 ^ 24 := by omega
    by_cases h0 : len * n = 0
    ·simp only [h0,N9,Array.map_empty] at f1
     simp [execOp,ho,Instr.buildSlice,Zo hu,YC hs,h0,N9,f1,newRow]
    ·simp [execOp,ho,Instr.buildSlice,Zo hu,YC hs,h0,hno,z2,f1,newRow]
   ·have hcl : Zd (VR (List.replicate len z.nrm) (Y5 t parts.toList)) = true :=
     Qe0 (Jh.2 fun y hy => by rw [List.eq_of_mem_replicate hy]; exact c5) c6
    have hfree : (S.at (S.w.alloc (.cells us e))).free S.w.heap.size := by
     refine ⟨?_,fun hz => by have := hS.zlt _ hz; omega⟩
     rintro ⟨i,hi,he⟩
     have := hS.lt (i := i) hi
     exact Nat.ne_of_lt this he
    have hex : ∃ g : Nat → Value,∀ (i : Nat) (x : V) (j : Nat) (y : V),(VR (List.replicate len z.nrm) (Y5 t parts.toList))[i]? = some x → x.cells[j]? = some y → us[i * n + j]? = some (g (i * n + j)) ∧ Rel S y (g (i * n + j)) := by
     refine ⟨fun k => (us[k]?).getD undef,fun i x j y hi hj => ?_⟩
     obtain ⟨u',k1,k2⟩ := f2.get i x j y hi hj
     simp only [k1,Option.getD_some]
     exact ⟨trivial,k2⟩
    obtain ⟨g,hg⟩ := hex
    refine .vs _ _ len len S.w.heap.size 0 n g f3.symm (Nat.le_refl _) hcl (fun _ => ⟨rfl,hfree,by simp [Ctx.at]⟩) f2.len (fun i x j y hi hj => ?_) (fun i x j y hi hj => ((hg i x j y hi hj).2).mono hx)
    simp only [Ctx.at]
    rw [LI hp.new,Nat.zero_add]
    exact (hg i x j y hi hj).1
  ·simp at h
end Go.Ev
end
