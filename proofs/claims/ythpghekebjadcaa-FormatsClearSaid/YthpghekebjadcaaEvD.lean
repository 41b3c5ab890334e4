/- EvD: a part of the proof that each law of this seat answers true at every input. No condition. -/
import Derived.Test.YthpghekebjadcaaEvC
import Derived.Scope
import Derived.LoopN
import Derived.Recover
set_option linter.unusedVariables false
set_option linter.unusedSimpArgs false
section
namespace Go.Ev
variable {T : ZT}
variable {P : Program} {own : Bool} {ops : List Oper} {base : Nat} {call : Qh}
def Yc (P : Program) (own : Bool) (ops : List Oper) (k : Nat) : Prop := ∃ o,ops[k]? = some o ∧ Je (kindOf P own ops o.dst o.op) = true
def YB (ops : List Oper) (k s : Nat) : Prop := ∃ o,ops[k]? = some o ∧ o.dst = some s
theorem Aft.lt (he : NH 0 ops = true) {i j : Nat} (h : Aft ops i j) : j < i := by
 have hd : ∀ {i j},Dir ops i j → j < i := fun {i j} h => by
  obtain ⟨o,e,h1,h2,h3,rfl⟩ := h
  have := Qd1 he i o h1 e h2 h3
  omega
 induction h with
 | dir i j h => exact hd h
 | step i k j h _ ih => exact Nat.lt_trans ih (hd h)
structure Fix (T : ZT) (P : Program) (base : Nat) (own : Bool) (call : Qh) (ops : List Oper) (m : Nat) (q : Seq) (X : Nat → Bool) (S0 : Ctx) : Prop where
 tr : Tr P base own call ops (Yv ops []) m q X
 ok : Wz P own ops = true
 call : Yb T P call
 sim : Sim T S0
 base : base ≤ S0.H.length
section
variable {m : Nat} {q : Seq} {X : Nat → Bool} {S0 : Ctx}
theorem Fix.edges (F : Fix T P base own call ops m q X S0) : NH 0 ops = true := by
 have := F.ok; simp only [Wz,Bool.and_eq_true] at this; exact this.1.1.1
theorem Fix.pair (F : Fix T P base own call ops m q X S0) {i j : Nat} {oi oj : Oper} (hij : i < j) (hi : ops[i]? = some oi) (hj : ops[j]? = some oj) : Bp P own ops (Yv ops []) i oi j oj = true := by
 have := F.ok
 simp only [Wz,Bool.and_eq_true] at this
 have := Qa4 this.1.2 i j oi oj hij hi hj
 simpa using this
theorem Fix.fresh (F : Fix T P base own call ops m q X S0) {a f u : Nat} {oa of ou : Oper} (ha : ops[a]? = some oa) (hk : kindOf P own ops oa.dst oa.op = .fresh) (hf : ops[f]? = some of) (hfa : f < a)
  (hfe : Je (kindOf P own ops of.dst of.op) = true) (hu : ops[u]? = some ou) (h : ahead (Yv ops []) u a = true) : ahead (Yv ops []) u f = true := by
 have := F.ok
 simp only [Wz,Bool.and_eq_true] at this
 have := B7 this.2 a oa ha
 simp only [Nat.zero_add,hk,bne_self_eq_false,Bool.false_or] at this
 have := B7 this f of hf
 simp only [Nat.zero_add,hfe,Bool.not_true,Bool.or_false,Bool.or_eq_true,decide_eq_true_eq] at this
 rcases this with h1 | h1
 ·omega
 ·have := B7 h1 u ou hu
  simpa [h] using this
theorem Fix.lt (F : Fix T P base own call ops m q X S0) {i j : Nat} (h : ahead (Yv ops []) i j = true) : j < i := (Jc h).lt F.edges
theorem Fix.dd (F : Fix T P base own call ops m q X S0) {i j s : Nat} (hij : i < j) (hi : YB ops i s) (hj : YB ops j s) : ahead (Yv ops []) j i = true := by
 obtain ⟨oi,hi,di⟩ := hi
 obtain ⟨oj,hj,dj⟩ := hj
 have := F.pair hij hi hj
 simp only [Bp,di,dj,Bool.or_eq_true,Bool.and_eq_true] at this
 rcases this with h | h
 ·exact h
 ·simp at h
theorem Fix.look1 (F : Fix T P base own call ops m q X S0) {i k s : Nat} {o : Oper} (hik : i < k) (hi : YB ops i s) (hk : ops[k]? = some o) (hs : s ∈ Oper.looksAt ops.toArray o) : ahead (Yv ops []) k i = true := by
 obtain ⟨oi,hi,di⟩ := hi
 have := F.pair hik hi hk
 simp only [Bp,di,Bool.or_eq_true,Bool.and_eq_true] at this
 rcases this with h | h
 ·exact h
 ·simp [hs] at h
theorem Fix.look2 (F : Fix T P base own call ops m q X S0) {j k s : Nat} {o : Oper} (hkj : k < j) (hj : YB ops j s) (hk : ops[k]? = some o) (hs : s ∈ Oper.looksAt ops.toArray o) : ahead (Yv ops []) j k = true := by
 obtain ⟨oj,hj,dj⟩ := hj
 have := F.pair hkj hk hj
 simp only [Bp,dj,Bool.or_eq_true,Bool.and_eq_true] at this
 rcases this with h | h
 ·exact h
 ·simp [hs] at h
theorem Fix.ee (F : Fix T P base own call ops m q X S0) {i j : Nat} (hij : i < j) (hi : Yc P own ops i) (hj : Yc P own ops j) :
  ahead (Yv ops []) j i = true ∨ ∃ o,ops[j]? = some o ∧ kindOf P own ops o.dst o.op = .fresh ∧ o.guard = none := by
 obtain ⟨oi,hi,ei⟩ := hi
 obtain ⟨oj,hj,ej⟩ := hj
 have := F.pair hij hi hj
 simp only [Bp,Bool.or_eq_true,Bool.and_eq_true] at this
 rcases this with h | h
 ·exact .inl h
 ·have h2 := h.2
  rw [ei,ej] at h2
  refine .inr ⟨oj,hj,?_⟩
  simpa using h2
theorem Fix.len (F : Fix T P base own call ops m q X S0) : ∀ k,k ≤ ops.length → (q.T k).length = (q.T 0).length
 | 0,_ => rfl
 | k + 1,h => by
  have hk : k < ops.length := by omega
  have ho : ops[k]? = some ops[k] := by simp [hk]
  have ih := F.len k (by omega)
  cases hX : X k with
  | false => rw [(F.tr.skip k _ ho hX).1,ih]
  | true =>
   rw [(F.tr.step k _ ho hX).2.2,← ih]
   unfold Z8
   split <;> simp
theorem D5 (t : List V) (dst : Option Tmp) (v : V) (s : Nat) : (Z8 t dst v).getD s .junk = if dst = some s then (if s < t.length then v else .junk) else t.getD s .junk := by
 cases dst with
 | none => simp [Z8]
 | some d =>
  simp only [Z8,List.getD_eq_getElem?_getD,List.getElem?_set,Option.some.injEq]
  by_cases e : d = s
  ·subst e
   by_cases c : d < t.length
   ·simp [c]
   ·simp [c]
  ·simp [e]
theorem Fix.tsame (F : Fix T P base own call ops m q X S0) {s k : Nat} : ∀ k',k ≤ k' → k' ≤ ops.length → (∀ j,k ≤ j → j < k' → YB ops j s → X j = false) → (q.T k').getD s .junk = (q.T k).getD s .junk
 | 0,h1,h2,h3 => by rw [show k = 0 by omega]
 | k' + 1,h1,h2,h3 => by
  by_cases c : k = k' + 1
  ·rw [c]
  ·have hk : k' < ops.length := by omega
   have ho : ops[k']? = some ops[k'] := by simp [hk]
   have ih := F.tsame k' (by omega) (by omega) fun j a b d => h3 j a (by omega) d
   rw [← ih]
   cases hX : X k' with
   | false => rw [(F.tr.skip k' _ ho hX).1]
   | true =>
    rw [(F.tr.step k' _ ho hX).2.2,D5]
    rw [if_neg]
    intro hd
    rw [h3 k' (by omega) (by omega) ⟨_,ho,hd⟩] at hX
    cases hX
theorem Fix.tput (F : Fix T P base own call ops m q X S0) {s k k' : Nat} (hk : k < k') (hk' : k' ≤ ops.length) (hd : YB ops k s) (hX : X k = true) (h : ∀ j,k < j → j < k' → YB ops j s → X j = false) :
  (q.T k').getD s .junk = if s < (q.T 0).length then q.R k else .junk := by
 rw [F.tsame k' hk hk' (fun j a b d => h j a b d)]
 obtain ⟨o,ho,hd⟩ := hd
 rw [(F.tr.step k o ho hX).2.2,D5,if_pos hd,F.len k (by omega)]
theorem Ma {t : List V} {H H1 : Qa} {o : Oper} {r : Out} (h : Zn P base own call ops o t H = some (r,H1)) :
  (Je (kindOf P own ops o.dst o.op) = false → H1 = H ∧ ∃ v,r = .ret v ∧ ∀ H',(kindOf P own ops o.dst o.op = .load → Yq ops t o = some true → ZZ P t H' o.op = some v) → Zn P base own call ops o t H' = some (.ret v,H')) ∧
  (Yq ops t o = some false → H1 = H) ∧ (kindOf P own ops o.dst o.op = .panic → ∀ v,r = .ret v → H1 = H) := by
 unfold Zn at h ⊢
 cases hw : Yq ops t o with
 | none => simp [hw] at h
 | some b =>
  simp only [hw,Option.bind_some] at h ⊢
  cases b with
  | false =>
   simp at h
   obtain ⟨rfl,rfl⟩ := h
   simp
  | true =>
   simp only [if_true] at h ⊢
   split at h <;> rename_i hk
   ·cases he : ZR P t o.op with
    | none => simp [he] at h
    | some v => simp [he] at h; obtain ⟨rfl,rfl⟩ := h; simp [hk]
   ·cases he : KN P t o.op with
    | none => simp [he] at h
    | some v => simp [he] at h; obtain ⟨rfl,rfl⟩ := h; simp [hk]
   ·cases he : ZZ P t H o.op with
    | none => simp [he] at h
    | some v =>
     simp [he] at h; obtain ⟨rfl,rfl⟩ := h
     refine ⟨fun _ => ⟨rfl,v,rfl,fun H' hl => ?_⟩,fun hh => (by cases hh),fun hh => (by rw [hk] at hh; cases hh)⟩
     simp [hk,hl hk trivial]
   ·simp [hk,Je]
   ·simp [hk,Je]
   ·simp [hk,Je]
   ·refine ⟨fun hh => by simp [hk,Je] at hh,fun hh => (by cases hh),fun _ v hv => ?_⟩
    subst hv
    cases he : Wi t o.op with
    | none => simp [he] at h
    | some v => simp [he] at h
   ·simp at h
   ·simp at h
theorem Fix.hstep (F : Fix T P base own call ops m q X S0) {k : Nat} (hk : k < ops.length) : q.H (k + 1) = q.H k ∨ (X k = true ∧ isE P own ops q.W k) := by
 have ho : ops[k]? = some ops[k] := by simp [hk]
 cases hX : X k with
 | false => exact .inl (F.tr.skip k _ ho hX).2.1
 | true =>
  obtain ⟨h1,h2,h3⟩ := F.tr.step k _ ho hX
  obtain ⟨e1,e2,e3⟩ := Ma h2
  cases hw : q.W k with
  | false => exact .inl (e2 (by rw [h1,hw]))
  | true =>
   cases hk : kindOf P own ops ops[k].dst ops[k].op
   case panic => exact .inl (e3 hk _ rfl)
   case eff => exact .inr ⟨rfl,hw,_,ho,.inl hk⟩
   case call => exact .inr ⟨rfl,hw,_,ho,.inr (.inl hk)⟩
   case fresh => exact .inr ⟨rfl,hw,_,ho,.inr (.inr hk)⟩
   all_goals exact .inl (e1 (by rw [hk]; rfl)).1
structure Inv (T : ZT) (P : Program) (base : Nat) (own : Bool) (ops : List Oper) (q : Seq) (X : Nat → Bool) (S0 : Ctx) (d : List (FuncId × List V)) (L : Nat → Bool) (c : Nat) (p : Nat → Nat) (S : Ctx) (a : Act) : Prop where
 closed : Closed ops L
 lX : ∀ k,L k = true → X k = true
 ext : Ext S0 S
 sim : Sim T S
 bd : Bd base S0.H S.H
 H : S.H = q.H c
 cn : c ≤ ops.length
 com : ∀ k,k < c → Yc P own ops k → L k = true
 size : (q.T 0).length ≤ a.tmps.size
 tmps : ∀ s k,k ≤ ops.length → (∀ i,i < k → YB ops i s → L i = true ∧ ¬ (c ≤ i ∧ Yc P own ops i)) → (∀ j,k ≤ j → YB ops j s → L j = false) → Rel S ((q.T k).getD s .junk) (a.tmps.getD s undef)
 pend : ∀ k,L k = true → c ≤ k → Yc P own ops k → S.Z (p k) ∧ S0.w.heap.size ≤ p k ∧ (∃ zs,J4 S (p k) (.var zs) ∧ q.H (k + 1) = .var zs :: q.H k ∧ q.R k = .ptr (q.H k).length 0 0) ∧
  ∀ s,YB ops k s → s < (q.T 0).length → a.tmps.getD s undef = .pointer (some ⟨p k,0,none⟩)
 ndep : ∀ k,L k = true → c ≤ k → Yc P own ops k → ∀ u,ahead (Yv ops []) u k = true → L u = false
 inj : ∀ k k',L k = true → c ≤ k → Yc P own ops k → L k' = true → c ≤ k' → Yc P own ops k' → p k = p k' → k = k'
 zed : ∀ z,S.Z z → S0.Z z ∨ ∃ k,L k = true ∧ c ≤ k ∧ Yc P own ops k ∧ p k = z
 d : RelD S d a.defers
theorem RelD.mono0 {S S' : Ctx} (hx : Ext0 S S') {ds : List (FuncId × List V)} {es : List Deferred} (h : RelD S ds es) : RelD S' ds es := by
 induction h with
 | nil => exact .nil
 | cons f vs cap args ds es h r ih => exact .cons f vs cap args ds es ⟨h.1,fun j x u h1 h2 => (h.2 j x u h1 h2).mono0 hx⟩ ih
variable {d : List (FuncId × List V)} {L : Nat → Bool} {c : Nat} {p : Nat → Nat} {S : Ctx} {a : Act}
theorem Inv.commit (F : Fix T P base own call ops m q X S0) (I : Inv T P base own ops q X S0 d L c p S a) (hc : L c = true) (he : Yc P own ops c) : ∃ S',Inv T P base own ops q X S0 d L (c + 1) p S' a ∧ S'.w = S.w := by
 obtain ⟨p1,p2,⟨zs,p3,p4,p5⟩,p6⟩ := I.pend c hc (Nat.le_refl _) he
 have hx0 := BX (b := .var zs) p1
 have hcn : c < ops.length := by obtain ⟨o,ho,_⟩ := he; exact (List.getElem?_eq_some_iff.1 ho).1
 refine ⟨S.commit (.var zs) (p c),⟨I.closed,I.lX,Qj8 I.ext F.sim p1 p2,QoC I.sim p1 p3,I.bd.trans (Bd.push _ _ _) I.ext.len,by simp [Ctx.commit,p4,I.H],hcn,fun k hk hke => ?_,I.size,fun s k hk h1 h2 => ?_,fun k hk1 hk2 hk3 => ?_,fun k hk1 hk2 hk3 => I.ndep k hk1 (by omega) hk3,fun k k' a1 a2 a3 b1 b2 b3 => I.inj k k' a1 (by omega) a3 b1 (by omega) b3,fun z hz => ?_,I.d.mono0 hx0⟩,rfl⟩
 ·by_cases e : k = c
  ·subst e; exact hc
  ·exact I.com k (by omega) hke
 ·by_cases hd : YB ops c s
  ·by_cases hlt : c < k
   ·have : ∀ j,c < j → j < k → YB ops j s → X j = false := fun j j1 j2 j3 => by
     have := F.dd j1 hd j3
     have h0 := I.ndep c hc (Nat.le_refl _) he j this
     rw [(h1 j j2 j3).1] at h0; cases h0
    rw [F.tput hlt hk hd (I.lX c hc) this]
    split
    ·rename_i hs
     rw [p6 s hd hs,p5]
     refine .ptr _ _ _ _ (by simp [Ctx.commit,I.H]) fun v hv => ⟨by omega,fun _ => by simp [Ctx.commit,I.H]⟩
    ·exact .junk _
   ·rw [h2 c (by omega) hd] at hc; cases hc
  ·refine (I.tmps s k hk (fun i i1 i2 => ⟨(h1 i i1 i2).1,fun hh => ?_⟩) h2).mono0 hx0
   by_cases e : c = i
   ·subst e; exact hd i2
   ·exact (h1 i i1 i2).2 ⟨by omega,hh.2⟩
 ·obtain ⟨q1,q2,⟨zs',q3,q4,q5⟩,q6⟩ := I.pend k hk1 (by omega) hk3
  refine ⟨⟨q1,fun e => ?_⟩,q2,⟨zs',q3.mono0 hx0 rfl,q4,q5⟩,q6⟩
  have := I.inj k c hk1 (by omega) hk3 hc (Nat.le_refl _) he e
  omega
 ·rcases I.zed z hz.1 with h | ⟨k,k1,k2,k3,k4⟩
  ·exact .inl h
  ·refine .inr ⟨k,k1,?_,k3,k4⟩
   by_cases e : k = c
   ·subst e; exact absurd k4.symm hz.2
   ·omega
theorem Inv.advance (F : Fix T P base own call ops m q X S0) : ∀ (n c : Nat) {S : Ctx},ops.length - c ≤ n → Inv T P base own ops q X S0 d L c p S a →
  ∃ c' S',Inv T P base own ops q X S0 d L c' p S' a ∧ S'.w = S.w ∧ (c' < ops.length → Yc P own ops c' ∧ L c' = false)
 | 0,c,S,hn,I => ⟨c,S,I,rfl,fun h => by omega⟩
 | n + 1,c,S,hn,I => by
  by_cases hlt : c < ops.length
  ·by_cases he : Yc P own ops c
   ·cases hL : L c with
    | false => exact ⟨c,S,I,rfl,fun _ => ⟨he,hL⟩⟩
    | true =>
     obtain ⟨S1,I1,w1⟩ := I.commit F hL he
     obtain ⟨c',S',h1,h2,h3⟩ := Inv.advance F n (c + 1) (by omega) I1
     exact ⟨c',S',h1,h2.trans w1,h3⟩
   ·have hH : q.H (c + 1) = q.H c := by
     rcases F.hstep hlt with h | ⟨_,_,o,ho,hk⟩
     ·exact h
     ·refine absurd ⟨o,ho,?_⟩ he
      rcases hk with h | h | h <;> simp [h,Je]
    have ne : ∀ {k},c ≤ k → Yc P own ops k → c + 1 ≤ k := fun {k} h1 h2 => by
     by_cases e : c = k
     ·subst e; exact absurd h2 he
     ·omega
    have I1 : Inv T P base own ops q X S0 d L (c + 1) p S a :=
     ⟨I.closed,I.lX,I.ext,I.sim,I.bd,by rw [hH]; exact I.H,hlt,fun k hk hke => by
       by_cases e : k = c
       ·subst e; exact absurd hke he
       ·exact I.com k (by omega) hke,I.size,
      fun s k hk h1 h2 => I.tmps s k hk (fun i i1 i2 => ⟨(h1 i i1 i2).1,fun hh => (h1 i i1 i2).2 ⟨ne hh.1 hh.2,hh.2⟩⟩) h2,
      fun k k1 k2 k3 => I.pend k k1 (by omega) k3,fun k k1 k2 k3 => I.ndep k k1 (by omega) k3,fun k k' a1 a2 a3 b1 b2 b3 => I.inj k k' a1 (by omega) a3 b1 (by omega) b3,
      fun z hz => (I.zed z hz).imp id fun ⟨k,k1,k2,k3,k4⟩ => ⟨k,k1,ne k2 k3,k3,k4⟩,I.d⟩
    obtain ⟨c',S',h1,h2,h3⟩ := Inv.advance F n (c + 1) (by omega) I1
    exact ⟨c',S',h1,h2,h3⟩
  ·exact ⟨c,S,I,rfl,fun h => by omega⟩
end
end Go.Ev
end
section
namespace Go.Ev
variable {T : ZT}
variable {P : Program} {own : Bool} {ops : List Oper} {base : Nat} {call : Qh}
variable {m : Nat} {q : Seq} {X : Nat → Bool} {S0 : Ctx} {d : List (FuncId × List V)} {L : Nat → Bool} {c : Nat} {p : Nat → Nat} {S : Ctx} {a : Act} {i : Nat}
def add (L : Nat → Bool) (i : Nat) : Nat → Bool := fun k => L k || k == i
theorem Ba (L : Nat → Bool) (i : Nat) : add L i i = true := by simp [add]
theorem Yw {L : Nat → Bool} {i k : Nat} (h : k ≠ i) : add L i k = L k := by simp [add,h]
theorem Rn {L : Nat → Bool} {i k : Nat} (h : add L i k = false) : k ≠ i ∧ L k = false := by simpa [add,and_comm] using h
def Max (P : Program) (own : Bool) (ops : List Oper) (L : Nat → Bool) (c : Nat) : Prop := c < ops.length → Yc P own ops c ∧ L c = false
theorem Yc.lt {k : Nat} (h : Yc P own ops k) : k < ops.length := by obtain ⟨o,ho,_⟩ := h; exact (List.getElem?_eq_some_iff.1 ho).1
theorem Inv.late (F : Fix T P base own call ops m q X S0) (I : Inv T P base own ops q X S0 d L c p S a) (hm : Max P own ops L c) {k : Nat} (h1 : L k = true) (h2 : c ≤ k) (h3 : Yc P own ops k) : c < k := by
 by_cases e : c = k
 ·subst e
  rw [(hm h3.lt).2] at h1; cases h1
 ·omega
theorem Inv.nodep (F : Fix T P base own call ops m q X S0) (I : Inv T P base own ops q X S0 d L c p S a) (hm : Max P own ops L c) (R : Ready ops L i) {k : Nat} (h1 : L k = true) (h2 : c ≤ k) (h3 : Yc P own ops k) :
  ahead (Yv ops []) i k = false := by
 cases ha : ahead (Yv ops []) i k with
 | false => rfl
 | true =>
  exfalso
  have hck := I.late F hm h1 h2 h3
  obtain ⟨hce,hcL⟩ := hm (Nat.lt_trans hck h3.lt)
  rcases F.ee hck hce h3 with h | ⟨ok,hok,hkf,_⟩
  ·have := I.closed.aft (Jc h) h1
   rw [hcL] at this; cases this
  ·obtain ⟨oc,hoc,hec⟩ := hce
   obtain ⟨ou,hou⟩ := R.2.1
   have := F.fresh hok hkf hoc hck hec hou ha
   have := R.aft I.closed (Jc this)
   rw [hcL] at this; cases this
theorem Inv.dst (F : Fix T P base own call ops m q X S0) (I : Inv T P base own ops q X S0 d L c p S a) (hm : Max P own ops L c) (R : Ready ops L i) {k s : Nat} (h1 : L k = true) (h2 : c ≤ k) (h3 : Yc P own ops k)
  (hi : YB ops i s) (hk : YB ops k s) : False := by
 rcases Nat.lt_trichotomy i k with h | h | h
 ·have := I.closed.aft (Jc (F.dd h hi hk)) h1
  rw [R.1] at this; cases this
 ·subst h; rw [R.1] at h1; cases h1
 ·have := I.nodep F hm R h1 h2 h3
  rw [F.dd h hk hi] at this; cases this
theorem Inv.looks (F : Fix T P base own call ops m q X S0) (I : Inv T P base own ops q X S0 d L c p S a) (hm : Max P own ops L c) (R : Ready ops L i) {o : Oper} (ho : ops[i]? = some o) {s : Nat} (hs : s ∈ Oper.looksAt ops.toArray o) :
  Rel S ((q.T i).getD s .junk) (a.tmps.getD s undef) := by
 refine I.tmps s i (Nat.le_of_lt (List.getElem?_eq_some_iff.1 ho).1) (fun w h1 h2 => ?_) (fun w h1 h2 => ?_)
 ·have ha := F.look1 h1 h2 ho hs
  have hL := R.aft I.closed (Jc ha)
  refine ⟨hL,fun hh => ?_⟩
  have := I.nodep F hm R hL hh.1 hh.2
  rw [ha] at this; cases this
 ·by_cases e : w = i
  ·subst e; exact R.1
  ·cases hL : L w with
   | false => rfl
   | true =>
    have := I.closed.aft (Jc (F.look2 (by omega) h2 ho hs)) hL
    rw [R.1] at this; cases this
theorem Inv.turn (F : Fix T P base own call ops m q X S0) (I : Inv T P base own ops q X S0 d L c p S a) (hm : Max P own ops L c) (R : Ready ops L i) (he : Yc P own ops i) :
  i = c ∨ (c < i ∧ ∃ o,ops[i]? = some o ∧ kindOf P own ops o.dst o.op = .fresh ∧ o.guard = none) := by
 rcases Nat.lt_trichotomy i c with h | h | h
 ·have := I.com i h he
  rw [R.1] at this; cases this
 ·exact .inl h
 ·obtain ⟨hce,hcL⟩ := hm (Nat.lt_trans h he.lt)
  rcases F.ee h hce he with h1 | h1
  ·have := R.aft I.closed (Jc h1)
   rw [hcL] at this; cases this
  ·exact .inr ⟨h,h1⟩
theorem Inv.carried (F : Fix T P base own call ops m q X S0) (I : Inv T P base own ops q X S0 d L c p S a) (R : Ready ops L i) : i = m ∨ X i = true := by
 cases hX : X i with
 | true => exact .inr rfl
 | false =>
  obtain ⟨o,ho⟩ := R.2.1
  rcases (F.tr.skip i o ho hX).2.2 with h | h
  ·exact .inl h
  ·have h1 := I.lX m (R.aft I.closed (Jc h))
   have h2 := F.lt h
   rw [F.tr.mid (Nat.lt_trans h2 (List.getElem?_eq_some_iff.1 ho).1)] at h1; cases h1
theorem Inv.relT (F : Fix T P base own call ops m q X S0) (I : Inv T P base own ops q X S0 d L c p S a) (hm : Max P own ops L c) (R : Ready ops L i) {o : Oper} (ho : ops[i]? = some o) :
  Zv S (WC (Oper.looksAt ops.toArray o) (q.T i)) a.tmps := by
 refine ⟨?_,fun s => ?_⟩
 ·rw [WC,M5,F.len i (Nat.le_of_lt (List.getElem?_eq_some_iff.1 ho).1)]; exact I.size
 ·rw [L0]
  split
  ·rename_i h
   exact I.looks F hm R ho (by simpa using h)
  ·exact .junk _
theorem Rv {o : Oper} {t : List V} {H : Qa} : Zn P base own call ops o (WC (Oper.looksAt ops.toArray o) t) H = Zn P base own call ops o t H := QaT fun s hs => by
 rw [L0,if_pos (by simpa using hs)]
theorem Inv.load (F : Fix T P base own call ops m q X S0) (I : Inv T P base own ops q X S0 d L c p S a) (hm : Max P own ops L c) (R : Ready ops L i) {o : Oper} (ho : ops[i]? = some o) (hX : X i = true)
  (hk : kindOf P own ops o.dst o.op = .load) (hw : q.W i = true) (h0 : ZZ P (q.T i) (q.H i) o.op = some (q.R i)) : ZZ P (q.T i) (q.H c) o.op = some (q.R i) := by
 have hop : Wm ops i = o.op := by simp [Wm,ho]
 have hl : isL P own ops q.W i := ⟨hw,o,ho,hk⟩
 have hil := (List.getElem?_eq_some_iff.1 ho).1
 have eff : ∀ {k},isE P own ops q.W k → Yc P own ops k := fun {k} ⟨_,o,ho,hk⟩ => ⟨o,ho,by rcases hk with h | h | h <;> simp [h,Je]⟩
 have up : ∀ n,i + n ≤ c → ZZ P (q.T i) (q.H (i + n)) o.op = some (q.R i) := by
  intro n
  induction n with
  | zero => intro _; exact h0
  | succ n ih =>
   intro hn
   rcases F.hstep (k := i + n) (by have := I.cn; omega) with h | ⟨h1,h2⟩
   ·rw [show i + (n + 1) = i + n + 1 by omega,h]; exact ih (by omega)
   ·have hin : i ≠ i + n := by
     intro e
     obtain ⟨_,o',ho',hk'⟩ := h2
     rw [← e,ho] at ho'; injection ho' with ho'; subst ho'
     rcases hk' with h | h | h <;> rw [hk] at h <;> cases h
    rcases F.tr.ef i (i + n) (by omega) hX h1 hl h2 with h | h
    ·have := I.closed.aft (Jc h) (I.com (i + n) (by omega) (eff h2))
     rw [R.1] at this; cases this
    ·rw [hop] at h; exact h
 have down : ∀ n,c + n ≤ i → n ≤ i → ZZ P (q.T i) (q.H (i - n)) o.op = some (q.R i) := by
  intro n
  induction n with
  | zero => intro _ _; exact h0
  | succ n ih =>
   intro hn hni
   have hi : i - n = i - (n + 1) + 1 := by omega
   rcases F.hstep (k := i - (n + 1)) (by omega) with h | ⟨h1,h2⟩
   ·rw [← h,← hi]; exact ih (by omega) (by omega)
   ·rcases F.tr.ld i (i - (n + 1)) (by omega) hX h1 hl h2 with h | h
    ·exfalso
     have hL := R.aft I.closed (Jc h)
     have := I.nodep F hm R hL (by omega) (eff h2)
     rw [h] at this; cases this
    ·rw [hop] at h; exact h
 rcases Nat.le_total i c with h | h
 ·have := up (c - i) (by omega)
  rwa [show i + (c - i) = c by omega] at this
 ·have := down (i - c) (by omega) (by omega)
  rwa [show i - (i - c) = c by omega] at this
theorem Inv.add (F : Fix T P base own call ops m q X S0) (I : Inv T P base own ops q X S0 d L c p S a) (hm : Max P own ops L c) (R : Ready ops L i) {o : Oper} (ho : ops[i]? = some o) (hX : X i = true)
  {c' : Nat} {S' : Ctx} {u : Value} (hH : S'.H = q.H c') (hc' : c' ≤ ops.length) (hx : Ext S S') (hZ : S'.Z = S.Z) (hs : Sim T S') (hbd : Bd base S.H S'.H) (hu : Rel S' (q.R i) u)
  (hp : ∀ k,(Ev.add L i k = true ∧ c' ≤ k ∧ Yc P own ops k) ↔ (L k = true ∧ c ≤ k ∧ Yc P own ops k)) (hcom : ∀ k,k < c' → Yc P own ops k → Ev.add L i k = true) :
  Inv T P base own ops q X S0 d (Ev.add L i) c' p S' (a.put o.dst u) := by
 have keepA : ∀ s,¬ YB ops i s → (a.put o.dst u).tmps.getD s undef = a.tmps.getD s undef := fun s h => by
  cases hd : o.dst with
  | none => rfl
  | some e =>
   have : e ≠ s := fun h' => h ⟨o,ho,by rw [hd,h']⟩
   simp [Act.put,Array.getElem?_setIfInBounds_ne this]
 have hsz : (a.put o.dst u).tmps.size = a.tmps.size := by cases o.dst <;> simp [Act.put]
 refine ⟨R.closed I.closed,fun k hk => ?_,I.ext.trans hx,hs,I.bd.trans hbd I.ext.len,hH,hc',hcom,by rw [hsz]; exact I.size,fun s k hk h1 h2 => ?_,fun k k1 k2 k3 => ?_,fun k k1 k2 k3 y hy => ?_,
  fun k k' a1 a2 a3 b1 b2 b3 => ?_,fun z hz => ?_,?_⟩
 ·by_cases e : k = i
  ·subst e; exact hX
  ·rw [Yw e] at hk; exact I.lX k hk
 ·by_cases hd : YB ops i s
  ·have hik : i < k := by
    rcases Nat.lt_or_ge i k with h | h
    ·exact h
    ·have := h2 i h hd
     rw [Ba] at this; cases this
   have none : ∀ j,i < j → j < k → YB ops j s → X j = false := fun j j1 j2 j3 => by
    have hj := (h1 j j2 j3).1
    rw [Yw (by omega)] at hj
    have := I.closed.aft (Jc (F.dd j1 hd j3)) hj
    rw [R.1] at this; cases this
   rw [F.tput hik hk hd hX none]
   split
   ·rename_i hlt
    obtain ⟨o',ho',hd'⟩ := hd
    rw [ho] at ho'; injection ho' with ho'; subst ho'
    have : s < a.tmps.size := Nat.lt_of_lt_of_le hlt I.size
    rw [hd']
    simpa [Act.put,this] using hu
   ·exact .junk _
  ·rw [keepA s hd]
   refine (I.tmps s k hk (fun w w1 w2 => ?_) (fun j j1 j2 => ?_)).mono hx
   ·have hne : w ≠ i := by rintro rfl; exact hd w2
    obtain ⟨b1,b2⟩ := h1 w w1 w2
    have b1' := b1
    rw [Yw hne] at b1'
    exact ⟨b1',fun hh => b2 ⟨((hp w).2 ⟨b1',hh.1,hh.2⟩).2.1,hh.2⟩⟩
   ·exact (Rn (h2 j j1 j2)).2
 ·obtain ⟨k1,k2,k3⟩ := (hp k).1 ⟨k1,k2,k3⟩
  obtain ⟨q1,q2,⟨zs,q3,q4,q5⟩,q6⟩ := I.pend k k1 k2 k3
  refine ⟨by rw [hZ]; exact q1,q2,⟨zs,q3.mono hx (hx.zed _ q1).2,q4,q5⟩,fun s s1 s2 => ?_⟩
  rw [keepA s fun hd => I.dst F hm R k1 k2 k3 hd s1]
  exact q6 s s1 s2
 ·obtain ⟨k1,k2,k3⟩ := (hp k).1 ⟨k1,k2,k3⟩
  by_cases e : y = i
  ·rw [e] at hy
   have := I.nodep F hm R k1 k2 k3
   rw [hy] at this; cases this
  ·rw [Yw e]; exact I.ndep k k1 k2 k3 y hy
 ·obtain ⟨a1,a2,a3⟩ := (hp k).1 ⟨a1,a2,a3⟩
  obtain ⟨b1,b2,b3⟩ := (hp k').1 ⟨b1,b2,b3⟩
  exact I.inj k k' a1 a2 a3 b1 b2 b3
 ·rw [hZ] at hz
  rcases I.zed z hz with h | ⟨k,k1,k2,k3,k4⟩
  ·exact .inl h
  ·obtain ⟨k1,k2,k3⟩ := (hp k).2 ⟨k1,k2,k3⟩
   exact .inr ⟨k,k1,k2,k3,k4⟩
 ·rw [put_defers]; exact I.d.mono hx
theorem Inv.early (F : Fix T P base own call ops m q X S0) (I : Inv T P base own ops q X S0 d L c p S a) (hm : Max P own ops L c) (R : Ready ops L i) {o : Oper} (ho : ops[i]? = some o) (hX : X i = true) (hci : c < i) (he : Yc P own ops i)
  {cs : List V} {us : Array Value} {ty : TypeId} (hr : RelA S cs us) (h1 : q.H (i + 1) = .var cs :: q.H i) (h2 : q.R i = .ptr (q.H i).length 0 0) :
  Inv T P base own ops q X S0 d (Ev.add L i) c (fun k => if k = i then S.w.heap.size else p k) (S.hold (S.w.alloc (.cells us ty))) (a.put o.dst (.pointer (some ⟨S.w.heap.size,0,none⟩))) := by
 have hpu : Pushed S.w (S.w.alloc (.cells us ty)) (.cells us ty) := ⟨rfl,rfl,rfl,rfl⟩
 have hx := CS I.sim hpu
 have keepA : ∀ s,¬ YB ops i s → (a.put o.dst (.pointer (some ⟨S.w.heap.size,0,none⟩))).tmps.getD s undef = a.tmps.getD s undef := fun s h => by
  cases hd : o.dst with
  | none => rfl
  | some e =>
   have : e ≠ s := fun h' => h ⟨o,ho,by rw [hd,h']⟩
   simp [Act.put,Array.getElem?_setIfInBounds_ne this]
 have hsz : (a.put o.dst (.pointer (some ⟨S.w.heap.size,0,none⟩))).tmps.size = a.tmps.size := by cases o.dst <;> simp [Act.put]
 refine ⟨R.closed I.closed,fun k hk => ?_,I.ext.trans hx,Qip I.sim hpu,I.bd,I.H,I.cn,fun k hk hke => ?_,by rw [hsz]; exact I.size,fun s k hk h1 h2 => ?_,fun k k1 k2 k3 => ?_,fun k k1 k2 k3 u hu => ?_,
  fun k k' a1 a2 a3 b1 b2 b3 => ?_,fun z hz => ?_,?_⟩
 ·by_cases e : k = i
  ·subst e; exact hX
  ·rw [Yw e] at hk; exact I.lX k hk
 ·rw [Yw (by omega)]; exact I.com k hk hke
 ·have hd : ¬ YB ops i s := fun hd => by
   rcases Nat.lt_or_ge i k with h | h
   ·exact (h1 i h hd).2 ⟨by omega,he⟩
   ·have := h2 i h hd
    rw [Ba] at this; cases this
  rw [keepA s hd]
  refine (I.tmps s k hk (fun w w1 w2 => ?_) (fun j j1 j2 => (Rn (h2 j j1 j2)).2)).mono hx
  have hne : w ≠ i := by rintro rfl; exact hd w2
  obtain ⟨b1,b2⟩ := h1 w w1 w2
  rw [Yw hne] at b1
  exact ⟨b1,b2⟩
 ·by_cases e : k = i
  ·subst e
   simp only [if_true]
   refine ⟨.inr rfl,I.ext.size,⟨cs,⟨us,ty,(0,0),hpu.new,hr.size,Ry _,(hr.mono hx).cellsRel⟩,h1,h2⟩,fun s s1 s2 => ?_⟩
   obtain ⟨o',ho',hd'⟩ := s1
   rw [ho] at ho'; injection ho' with ho'; subst ho'
   have : s < a.tmps.size := Nat.lt_of_lt_of_le s2 I.size
   rw [hd']
   simp [Act.put,this]
  ·rw [Yw e] at k1
   simp only [if_neg e]
   obtain ⟨q1,q2,⟨zs,q3,q4,q5⟩,q6⟩ := I.pend k k1 k2 k3
   refine ⟨(hx.zed _ q1).1,q2,⟨zs,q3.mono hx (hx.zed _ q1).2,q4,q5⟩,fun s s1 s2 => ?_⟩
   rw [keepA s fun hd => I.dst F hm R k1 k2 k3 hd s1]
   exact q6 s s1 s2
 ·by_cases e : u = i
  ·subst e
   by_cases e2 : k = u
   ·subst e2; have := F.lt hu; omega
   ·rw [Yw e2] at k1
    have := I.nodep F hm R k1 k2 k3
    rw [hu] at this; cases this
  ·rw [Yw e]
   by_cases e2 : k = i
   ·subst e2
    cases hL : L u with
    | false => rfl
    | true =>
     have := I.closed.aft (Jc hu) hL
     rw [R.1] at this; cases this
   ·rw [Yw e2] at k1
    exact I.ndep k k1 k2 k3 u hu
 ·have lt : ∀ {k},L k = true → c ≤ k → Yc P own ops k → p k ≠ S.w.heap.size := fun {k} x y z => Nat.ne_of_lt (I.sim.zlt _ (I.pend k x y z).1)
  intro h
  by_cases e : k = i <;> by_cases e' : k' = i
  ·rw [e,e']
  ·rw [Yw e'] at b1
   simp only [e,if_true,if_neg e'] at h
   exact absurd h.symm (lt b1 b2 b3)
  ·rw [Yw e] at a1
   simp only [e',if_true,if_neg e] at h
   exact absurd h (lt a1 a2 a3)
  ·rw [Yw e] at a1
   rw [Yw e'] at b1
   simp only [if_neg e,if_neg e'] at h
   exact I.inj k k' a1 a2 a3 b1 b2 b3 h
 ·rcases hz with hz | hz
  ·rcases I.zed z hz with h | ⟨k,k1,k2,k3,k4⟩
   ·exact .inl h
   ·have e : k ≠ i := by rintro rfl; rw [R.1] at k1; cases k1
    exact .inr ⟨k,by rw [Yw e]; exact k1,k2,k3,by simp [e,k4]⟩
  ·exact .inr ⟨i,Ba _ _,by omega,he,by simp [hz]⟩
 ·rw [put_defers]; exact I.d.mono hx
end Go.Ev
end
section
namespace Go.Ev
variable {T : ZT}
variable {P : Program} {own : Bool} {ops : List Oper} {base : Nat} {call : Qh}
variable {m : Nat} {q : Seq} {X : Nat → Bool} {S0 : Ctx} {d : List (FuncId × List V)} {L : Nat → Bool} {c : Nat} {p : Nat → Nat} {S : Ctx} {a : Act} {i : Nat}
theorem TF : ∀ (l : List Oper) (t : List V) (s : Nat),(forget l t).getD s .junk = if (l.any fun o => o.dst == some s) then .junk else t.getD s .junk
 | [],t,s => by simp [forget]
 | o :: r,t,s => by
  rw [forget,TF r,D5]
  by_cases h : o.dst = some s
  ·simp [h]
  ·simp [h]
theorem QaQ : ∀ (l : List Oper) (t : List V),(forget l t).length = t.length
 | [],t => rfl
 | o :: r,t => by rw [forget,QaQ r]; unfold Z8; split <;> simp
def Fin (P : Program) (base : Nat) (own : Bool) (call : Qh) (ops : List Oper) (m : Nat) (q : Seq) (d : List (FuncId × List V)) (e : Ex) (st' : St) : Prop :=
 (m = ops.length ∧ e = .normal ∧ st' = { t := q.T ops.length,H := q.H ops.length,d := d }) ∨
  ∃ v H' o,ops[m]? = some o ∧ e = .pan v ∧ st' = { t := forget ops (q.T 0),H := H',d := d } ∧ Yq ops (q.T m) o = some true ∧ Zn P base own call ops o (q.T m) (q.H m) = some (.pan v,H')
theorem YJ.drop {S' : Ctx} {e : Ex} {st : St} {e' : Exit} {a' : Act} {w' : World} (hx : Ext S0 S') (hs : Sim T S') (hH : S'.H = st.H) (hw : S'.w = w') (hb : Bd base S0.H st.H) (h : Lq S' e e') (ht : Zv S' st.t a'.tmps) (hd : RelD S' st.d a'.defers) : YJ T base S0 e st e' a' w' := by
 have hz : ∀ c,S0.Z c → S'.Z c := fun c h => (hx.zed c h).1
 have h0 := Cd (S := S') hz
 refine ⟨S'.drop S0.Z,⟨hH,hw,rfl,QmV hx,Qi1 hs hz,hb⟩,?_,⟨ht.1,fun s => (ht.2 s).mono0 h0⟩,hd.mono0 h0⟩
 cases e <;> cases e' <;> simp only [Lq] at h ⊢ <;> first
  | exact h
  | (obtain ⟨u,h1,h2⟩ := h; exact ⟨u,h1,h2.mono0 h0⟩)
theorem Inv.done (F : Fix T P base own call ops m q X S0) (I : Inv T P base own ops q X S0 d L c p S a) (hm : Max P own ops L c) {e : Ex} {st' : St} (hf : Fin P base own call ops m q d e st') (hL : ∀ k,k < ops.length → L k = true) :
  YJ T base S0 e st' .normal a S.w := by
 have hcn : c = ops.length := by
  rcases Nat.lt_or_ge c ops.length with h | h
  ·have := (hm h).2
   rw [hL c h] at this; cases this
  ·have := I.cn; omega
 rcases hf with ⟨f1,rfl,rfl⟩ | ⟨v,H',o,ho,_⟩
 ·refine YJ.drop I.ext I.sim (by rw [I.H,hcn]) rfl (by have := I.bd; rw [I.H,hcn] at this; exact this) trivial ⟨?_,fun s => ?_⟩ I.d
  ·rw [F.len _ (Nat.le_refl _)]; exact I.size
  ·refine I.tmps s ops.length (Nat.le_refl _) (fun i h1 h2 => ⟨hL i h1,fun hh => ?_⟩) (fun j h1 h2 => ?_)
   ·omega
   ·obtain ⟨o,ho,_⟩ := h2
    have := (List.getElem?_eq_some_iff.1 ho).1
    omega
 ·have h := (List.getElem?_eq_some_iff.1 ho).1
  have := I.lX m (hL m h)
  rw [F.tr.mid h] at this; cases this
theorem C4 {ops : List Oper} {Q : Exit → Act → World → Prop} {i : Nat} {o : Oper} {K : Act → World → Prop} {w : World} (ho : ops[i]? = some o) (h : Jy P ops o K Q a w) : wpOp P ops.toArray Q i K a w := by
 simp only [wpOp,List.getElem?_toArray,ho]
 simpa [Jy] using h
theorem P3 {listed : Array Bool} {i : Nat} (hi : i < listed.size) : (fun k => (listed.setIfInBounds i true).getD k false) = Ev.add (fun k => listed.getD k false) i := by
 funext k
 by_cases e : k = i
 ·subst e; simp [Ev.add,hi]
 ·rw [Yw e,getD_set_ne false (Ne.symm e)]
theorem Qb8 (F : Fix T P base own call ops m q X S0) {e : Ex} {st' : St} (hf : Fin P base own call ops m q d e st') {Q : Exit → Act → World → Prop} (hQ : ∀ e' a' w',YJ T base S0 e st' e' a' w' → Q e' a' w')
  (I : Inv T P base own ops q X S0 d L c p S a) (hm : Max P own ops L c) (R : Ready ops L i) {o : Oper} (ho : ops[i]? = some o) {K : Act → World → Prop}
  (next : ∀ {c' : Nat} {p' : Nat → Nat} {S' : Ctx} {a' : Act},Inv T P base own ops q X S0 d (Ev.add L i) c' p' S' a' → Max P own ops (Ev.add L i) c' → K a' S'.w) : Jy P ops o K Q a S.w := by
 have hil : i < ops.length := (List.getElem?_eq_some_iff.1 ho).1
 have hT := I.relT F hm R ho
 have hbase : base ≤ S.H.length := Nat.le_trans F.base I.ext.len
 rcases I.carried F R with him | hX
 ·-- the one that panics
  rcases hf with ⟨f1,_,_⟩ | ⟨v,H',o',ho',rfl,rfl,hw,he1⟩
  ·omega
  ·subst him
   rw [ho] at ho'; injection ho' with ho'; subst ho'
   have heff : Yc P own ops i := ⟨o,ho,by
    cases hk : Je (kindOf P own ops o.dst o.op) with
    | true => rfl
    | false => obtain ⟨_,v',hv,_⟩ := (Ma he1).1 hk; cases hv⟩
   have hic : i = c := by
    rcases I.turn F hm R heff with h | ⟨_,o',ho',hk,hg⟩
    ·exact h
    ·rw [ho] at ho'; injection ho' with ho'; subst ho'
     exfalso
     unfold Zn at he1
     rw [hw] at he1
     simp only [Option.bind_some,if_true,hk] at he1
     cases hh : Z6 P base (q.T i) (q.H i) o.op with
     | none => simp [hh] at he1
     | some r => simp [hh] at he1
   subst hic
   rw [← I.H,← Rv] at he1
   refine UK F.call I.sim hbase hT he1 (fun v' hv' => by cases hv') (fun v' hv' S' u to hu => ?_)
   cases hv'
   refine hQ _ _ _ (YJ.drop (I.ext.trans to.ext) to.sim to.H rfl (I.bd.trans to.bd I.ext.len) ⟨u,rfl,hu⟩ ⟨?_,fun s => ?_⟩ (I.d.mono to.ext))
   ·rw [QaQ]; exact I.size
   ·rw [TF]
    split
    ·exact .junk _
    ·rename_i hns
     have hno : ∀ j,¬ YB ops j s := fun j ⟨oj,hj,hd⟩ => hns (List.any_eq_true.2 ⟨oj,List.mem_of_getElem? hj,by simp [hd]⟩)
     exact (I.tmps s 0 (Nat.zero_le _) (fun _ h _ => by omega) (fun j _ h => absurd h (hno j))).mono to.ext
 ·obtain ⟨s1,s2,s3⟩ := F.tr.step i o ho hX
  by_cases heff : Yc P own ops i
  ·rcases I.turn F hm R heff with hic | ⟨hci,o',ho',hk,hg⟩
   ·-- its turn
    subst hic
    have hi1 := s2
    rw [← I.H,← Rv] at hi1
    refine UK F.call I.sim hbase hT hi1 (fun v' hv' S' u to hu => ?_) (fun v' hv' => by cases hv')
    cases hv'
    have hpnd : ∀ k,(Ev.add L i k = true ∧ i + 1 ≤ k ∧ Yc P own ops k) ↔ (L k = true ∧ i ≤ k ∧ Yc P own ops k) := fun k => by
     by_cases e : k = i
     ·subst e
      exact ⟨fun h => absurd h.2.1 (by omega),fun h => absurd (R.1.symm.trans h.1) (by simp)⟩
     ·rw [Yw e]
      exact ⟨fun h => ⟨h.1,by omega,h.2.2⟩,fun h => ⟨h.1,by omega,h.2.2⟩⟩
    have I1 := I.add F hm R ho hX (c' := i + 1) (S' := S') (u := u) to.H hil to.ext to.Z to.sim (by rw [to.H]; exact to.bd) hu hpnd (fun k h1 h2 => by
     by_cases e : k = i
     ·subst e; exact Ba _ _
     ·rw [Yw e]; exact I.com k (by omega) h2)
    obtain ⟨c2,S2,I2,w2,hm2⟩ := Inv.advance F _ _ (Nat.le_refl _) I1
    rw [← w2]
    exact next I2 hm2
   ·-- a new variable,early
    rw [ho] at ho'; injection ho' with ho'; subst ho'
    have hwq : q.W i = true := by
     have := s1
     simp [Yq,hg] at this
     exact this
    unfold Zn at s2
    rw [s1,hwq] at s2
    simp only [Option.bind_some,if_true,hk] at s2
    cases hop : o.op <;> rw [hop] at hk s2 <;> try (simp [kindOf] at hk; done)
    case call cc =>
     simp only [kindOf] at hk
     split at hk <;> cases hk
    case convert =>
     simp only [kindOf] at hk
     split at hk <;> cases hk
    case slice =>
     simp only [kindOf] at hk
     split at hk <;> cases hk
    case buildSlice =>
     simp only [kindOf] at hk
     split at hk <;> cases hk
    case alloc ty =>
     simp only [Z6,newVar] at s2
     cases hz : ZO P ty with
     | none => simp [hz] at s2
     | some z =>
      simp only [hz,Option.bind_some] at s2
      split at s2
      ·rename_i hsc
       simp at s2
       obtain ⟨u,z1,z2⟩ := Wr hz S
       have hrun : (execOp a.eval o).run P S.w = .ok (.value (.pointer (some ⟨S.w.heap.size,0,none⟩))) (S.w.alloc (.cells u.cells ty)) := by
        simp [execOp,hop,Instr.alloc,z2,_root_.Go.newVar,newRow]
       have I1 := I.early F hm R ho hX hci heff (ty := ty) (z1.cells hsc) s2.2.symm s2.1.symm
       unfold Jy
       rw [if_pos (by simp [Region.wanted,hg])]
       refine .inl ?_
       unfold Oper.wp
       rw [hrun]
       refine next I1 fun h => ?_
       have := hm h
       exact ⟨this.1,by rw [Yw (by omega)]; exact this.2⟩
      ·simp at s2
  ·-- memory stays
   have hk : Je (kindOf P own ops o.dst o.op) = false := by
    cases h : Je (kindOf P own ops o.dst o.op) with
    | false => rfl
    | true => exact absurd ⟨o,ho,h⟩ heff
   obtain ⟨e1,v,e2,e3⟩ := (Ma s2).1 hk
   injection e2 with e2
   have e4 := e3 (q.H c) fun hl hw => by
    have hwq : q.W i = true := by rw [hw] at s1; injection s1 with s1; exact s1.symm
    rw [← e2]
    refine I.load F hm R ho hX hl hwq ?_
    have := s2
    unfold Zn at this
    rw [s1,hwq] at this
    simp only [Option.bind_some,if_true,hl] at this
    cases hh : ZZ P (q.T i) (q.H i) o.op with
    | none => simp [hh] at this
    | some r => simp [hh] at this; rw [this.1]
   rw [← I.H,← Rv] at e4
   refine UK F.call I.sim hbase hT e4 (fun v' hv' S' u to hu => ?_) (fun v' hv' => by cases hv')
   cases hv'
   have hpnd : ∀ k,(Ev.add L i k = true ∧ c ≤ k ∧ Yc P own ops k) ↔ (L k = true ∧ c ≤ k ∧ Yc P own ops k) := fun k => by
    by_cases e : k = i
    ·subst e
     exact ⟨fun h => absurd h.2.2 heff,fun h => absurd h.2.2 heff⟩
    ·rw [Yw e]
   have I1 := I.add F hm R ho hX (c' := c) (S' := S') (u := u) (by rw [to.H,I.H]) I.cn to.ext to.Z to.sim (by rw [to.H]; exact to.bd) (by rw [e2]; exact hu) hpnd (fun k h1 h2 => by
    by_cases e : k = i
    ·subst e; exact Ba _ _
    ·rw [Yw e]; exact I.com k (by omega) h2)
   refine next I1 fun h => ?_
   have := hm h
   have hne : c ≠ i := fun e => by subst e; exact heff this.1
   exact ⟨this.1,by rw [Yw hne]; exact this.2⟩
theorem QsN (F : Fix T P base own call ops m q X S0) {e : Ex} {st' : St} (hf : Fin P base own call ops m q d e st') {Q : Exit → Act → World → Prop} (hQ : ∀ e' a' w',YJ T base S0 e st' e' a' w' → Q e' a' w') : ∀ (fuel : Nat) (listed : Array Bool) (l : List Nat) {c : Nat} {p : Nat → Nat} {S : Ctx} {a : Act},
  listed.size = ops.length → l.length ≤ fuel → (∀ k,k < ops.length → listed.getD k false = false → k ∈ l) → Inv T P base own ops q X S0 d (fun k => listed.getD k false) c p S a → Max P own ops (fun k => listed.getD k false) c →
  wpAny P .any ops.toArray Q fuel listed a S.w := by
 have hrdy : ∀ {listed : Array Bool} {i : Nat},listed.size = ops.length → (i ∈ Region.ready .any ops.toArray listed ↔ Ready ops (fun k => listed.getD k false) i) := fun {listed i} hs => by
  rw [mem_ready]
  constructor
  ·rintro ⟨h1,o,h2,h3⟩
   have hlt : i < ops.length := (List.getElem?_eq_some_iff.1 (by simpa using h2)).1
   have hlt' : i < listed.size := by omega
   refine ⟨by simpa [hlt'] using h1,⟨o,by simpa using h2⟩,fun j hd => ?_⟩
   obtain ⟨o',e',g1,g2,g3,rfl⟩ := hd
   have : o' = o := by simpa [g1] using h2
   subst this
   exact h3 e' g2 g3
  ·rintro ⟨h1,⟨o,h2⟩,h3⟩
   have hlt : i < ops.length := (List.getElem?_eq_some_iff.1 h2).1
   have hlt' : i < listed.size := by omega
   exact ⟨by simpa [hlt'] using h1,o,by simpa using h2,fun e' g1 g2 => h3 e'.on ⟨o,e',h2,g1,g2,rfl⟩⟩
 have hall : ∀ {listed : Array Bool},listed.size = ops.length → Region.ready .any ops.toArray listed = [] → ∀ n k,k ≤ n → k < ops.length → listed.getD k false = true := by
  intro listed hs hr n
  induction n with
  | zero =>
   intro k hk hkl
   cases hL : listed.getD k false with
   | true => rfl
   | false =>
    have : k ∈ Region.ready .any ops.toArray listed := (hrdy hs).2 ⟨hL,⟨ops[k],by simp [hkl]⟩,fun j hd => by have := (Aft.dir _ _ hd).lt F.edges; omega⟩
    rw [hr] at this; cases this
  | succ n ih =>
   intro k hk hkl
   cases hL : listed.getD k false with
   | true => rfl
   | false =>
    have : k ∈ Region.ready .any ops.toArray listed := (hrdy hs).2 ⟨hL,⟨ops[k],by simp [hkl]⟩,fun j hd => by have := (Aft.dir _ _ hd).lt F.edges; exact ih j (by omega) (by omega)⟩
    rw [hr] at this; cases this
 intro fuel
 induction fuel with
 | zero =>
  intro listed l c p S a hs hl hc I hm
  have hL : ∀ k,k < ops.length → listed.getD k false = true := fun k hk => by
   cases h : listed.getD k false with
   | true => rfl
   | false =>
    have := hc k hk h
    rw [List.eq_nil_of_length_eq_zero (by omega : l.length = 0)] at this; cases this
  refine ⟨?_,hQ _ _ _ (I.done F hm hf hL)⟩
  cases hr : Region.ready .any ops.toArray listed with
  | nil => rfl
  | cons x xs =>
   have := (hrdy hs).1 (show x ∈ Region.ready .any ops.toArray listed by rw [hr]; exact List.mem_cons_self)
   obtain ⟨h1,⟨o,h2⟩,_⟩ := this
   have h3 := hL x (List.getElem?_eq_some_iff.1 h2).1
   have h1' : listed.getD x false = false := h1
   rw [h1'] at h3; cases h3
 | succ fuel ih =>
  intro listed l c p S a hs hl hc I hm
  refine ⟨fun hr => hQ _ _ _ (I.done F hm hf fun k hk => hall hs hr k k (Nat.le_refl _) hk),fun i hi => ?_⟩
  have R := (hrdy hs).1 hi
  obtain ⟨o,ho⟩ := R.2.1
  have hil : i < ops.length := (List.getElem?_eq_some_iff.1 ho).1
  have next : ∀ {c' : Nat} {p' : Nat → Nat} {S' : Ctx} {a' : Act},Inv T P base own ops q X S0 d (Ev.add (fun k => listed.getD k false) i) c' p' S' a' → Max P own ops (Ev.add (fun k => listed.getD k false) i) c' →
    wpAny P .any ops.toArray Q fuel (listed.setIfInBounds i true) a' S'.w := fun {c' p' S' a'} I' hm' => by
   rw [← P3 (by omega)] at I' hm'
   refine ih _ (l.erase i) (by simp [hs]) ?_ (fun k hk hkf => ?_) I' hm'
   ·have : i ∈ l := hc i hil R.1
    rw [List.length_erase_of_mem this]
    have := List.length_pos_of_mem this
    omega
   ·have hki : k ≠ i := by
     rintro rfl
     have hks : k < listed.size := by omega
     simp [hks] at hkf
    rw [getD_set_ne false (Ne.symm hki)] at hkf
    exact (List.mem_erase_of_ne hki).2 (hc k hk hkf)
  exact C4 ho (Qb8 F hf hQ I hm R ho next)
theorem QjZ (hcall : Yb T P call) (hmix : P.follows .mixedOrders = true) {S0 S : Ctx} {st : St} {a : Act} {w : World} (hat : At T base S0 S st a w) (hok : Wz P own ops = true) {e : Ex} {st' : St}
  (h : Ko P base own st.t call ops (Yv ops []) 0 ops [] [] st = some (e,st')) {id : Nat} : (Code.region id ops.toArray true).wp P (YJ T base S0 e st') a w := by
 obtain ⟨m,q,X,h1,h2,h3,h4,h5⟩ := QeF h
 have hw0 := hat.to.w
 subst hw0
 refine wp_region_any hmix ?_
 have hg : Grew S.w { S.w with drawn := S.w.drawn + 1 } := ⟨Nat.le_refl _,fun _ _ => rfl,rfl,rfl,rfl⟩
 have hx1 := W9 hat.to.sim hg
 have hs1 := Nb hat.to.sim hg
 have F : Fix T P base own call ops m q X (S.at { S.w with drawn := S.w.drawn + 1 }) := ⟨h4,hok,hcall,hs1,hat.le⟩
 have hf : Fin P base own call ops m q st.d e st' := by
  rcases h5 with h5 | ⟨v,H',o,a1,a2,a3,a4,a5⟩
  ·exact .inl h5
  ·exact .inr ⟨v,H',o,a1,a2,by rw [a3,h1],a4,a5⟩
 have I0 : Inv T P base own ops q X (S.at { S.w with drawn := S.w.drawn + 1 }) st.d (fun k => (Array.replicate ops.length false).getD k false) 0 (fun _ => 0) (S.at { S.w with drawn := S.w.drawn + 1 }) a := by
  have hL : ∀ k,(Array.replicate ops.length false).getD k false = false := fun k => by simp [Array.getElem?_replicate]; split <;> simp
  refine ⟨fun i j hi => ?_,fun k hk => ?_,Ext.refl _,hs1,Bd.refl _ _,by rw [h2]; exact hat.to.H,Nat.zero_le _,fun k hk => by omega,by rw [h1]; exact hat.t.1,fun s k hk g1 g2 => ?_,fun k hk => ?_,fun k hk => ?_,fun k k' hk => ?_,fun z hz => .inl hz,hat.d.mono hx1⟩
  ·rw [hL] at hi; cases hi
  ·rw [hL] at hk; cases hk
  ·rw [F.tsame k (Nat.zero_le _) hk (fun j j1 j2 j3 => by have := (g1 j j2 j3).1; rw [hL] at this; cases this),h1]
   exact (hat.t.2 s).mono hx1
  ·rw [hL] at hk; cases hk
  ·rw [hL] at hk; cases hk
  ·rw [hL] at hk; cases hk
 obtain ⟨c',S',I1,w1,hm⟩ := Inv.advance F _ _ (Nat.le_refl _) I0
 have to1 : To T base S (S.at { S.w with drawn := S.w.drawn + 1 }) st.H { S.w with drawn := S.w.drawn + 1 } := ⟨hat.to.H,rfl,rfl,hx1,hs1,by rw [hat.to.H]; exact Bd.refl _ _⟩
 have key := QsN F hf (Q := YJ T base S0 e st') (fun e' a' w' ⟨S2,t1,t2,t3,t4⟩ => ⟨S2,(hat.to.trans to1).trans t1,t2,t3,t4⟩) ops.length (Array.replicate ops.length false) (List.range ops.length) (by simp) (by simp) (fun k hk _ => by simpa using hk) I1 hm
 rw [w1] at key
 rw [show ops.toArray.size = ops.length by simp]
 exact key
end Go.Ev
end
section
namespace Go.Ev
variable {T : ZT}
variable {P : Program} {own : Bool} {ops : List Oper} {base : Nat} {call : Qh} {i : Nat}
theorem W5 : (Q2 ops i).length = ops.length := by simp [Q2]
theorem LJ {k : Nat} (h : k ≠ ops.length - 1) : (Q2 ops i)[k]? = ops[k]? := by
 rw [Q2,List.getElem?_modify_ne]; omega
theorem Mu : (Q2 ops i)[ops.length - 1]? = (ops[ops.length - 1]?).map fun o => { o with after := o.after.push { on := i,ground := .phase } } := by
 rw [Q2,List.getElem?_modify_eq]; rfl
theorem QdW {k l : Nat} (h : Dir ops k l) : Dir (Q2 ops i) k l := by
 obtain ⟨o,e,h1,h2,h3,h4⟩ := h
 by_cases hk : k = ops.length - 1
 ·subst hk
  refine ⟨_,e,by rw [Mu,h1]; rfl,?_,h3,h4⟩
  simp [h2]
 ·exact ⟨o,e,by rw [LJ hk]; exact h1,h2,h3,h4⟩
theorem Cu {k l : Nat} (h : Dir (Q2 ops i) k l) : Dir ops k l ∨ (k = ops.length - 1 ∧ l = i) := by
 obtain ⟨o,e,h1,h2,h3,h4⟩ := h
 by_cases hk : k = ops.length - 1
 ·subst hk
  rw [Mu] at h1
  cases ho : ops[ops.length - 1]? with
  | none => simp [ho] at h1
  | some o' =>
   simp only [ho,Option.map_some,Option.some.injEq] at h1
   subst h1
   simp only [Array.mem_push] at h2
   rcases h2 with h2 | rfl
   ·exact .inl ⟨o',e,ho,h2,h3,h4⟩
   ·exact .inr ⟨rfl,h4.symm⟩
 ·exact .inl ⟨o,e,by rw [← LJ hk]; exact h1,h2,h3,h4⟩
theorem Nw {listed : Array Bool} {x : Nat} (hs : listed.size = ops.length) : x ∈ Region.ready .any ops.toArray listed ↔ Ready ops (fun k => listed.getD k false) x := by
 rw [mem_ready]
 constructor
 ·rintro ⟨h1,o,h2,h3⟩
  have hlt : x < ops.length := (List.getElem?_eq_some_iff.1 (by simpa using h2)).1
  have hlt' : x < listed.size := by omega
  refine ⟨by simpa [hlt'] using h1,⟨o,by simpa using h2⟩,fun j hd => ?_⟩
  obtain ⟨o',e',g1,g2,g3,rfl⟩ := hd
  have : o' = o := by simpa [g1] using h2
  subst this
  exact h3 e' g2 g3
 ·rintro ⟨h1,⟨o,h2⟩,h3⟩
  have hlt : x < ops.length := (List.getElem?_eq_some_iff.1 h2).1
  have hlt' : x < listed.size := by omega
  exact ⟨by simpa [hlt'] using h1,o,by simpa using h2,fun e' g1 g2 => h3 e'.on ⟨o,e',h2,g1,g2,rfl⟩⟩
theorem Qap (he : ∀ k l,Dir ops k l → l < k) {listed : Array Bool} (hs : listed.size = ops.length) (hr : Region.ready .any ops.toArray listed = []) : ∀ n k,k ≤ n → k < ops.length → listed.getD k false = true := by
 intro n
 induction n with
 | zero =>
  intro k hk hkl
  cases hL : listed.getD k false with
  | true => rfl
  | false =>
   have : k ∈ Region.ready .any ops.toArray listed := (Nw hs).2 ⟨hL,⟨ops[k],by simp [hkl]⟩,fun j hd => by have := he _ _ hd; omega⟩
   rw [hr] at this; cases this
 | succ n ih =>
  intro k hk hkl
  cases hL : listed.getD k false with
  | true => rfl
  | false =>
   have : k ∈ Region.ready .any ops.toArray listed := (Nw hs).2 ⟨hL,⟨ops[k],by simp [hkl]⟩,fun j hd => by have := he _ _ hd; exact ih j (by omega) (by omega)⟩
   rw [hr] at this; cases this
theorem Qdi {ops ops' : List Oper} {o : Oper} {K : Act → World → Prop} {Q : Exit → Act → World → Prop} {a : Act} {w : World} (hg : o.guard = none) (h : Jy P ops o K Q a w) : Jy P ops' o K Q a w := by
 unfold Jy at h ⊢
 simp only [Region.wanted,hg] at h ⊢
 exact h
theorem Qd4 {ops ops' : List Oper} {o : Oper} {es : Array Edge} {K : Act → World → Prop} {Q : Exit → Act → World → Prop} {a : Act} {w : World} (hg : o.guard = none) (h : Jy P ops { o with after := es } K Q a w) : Jy P ops' o K Q a w := by
 unfold Jy at h ⊢
 simp only [Region.wanted,hg] at h ⊢
 exact h
variable {q : Seq} {X : Nat → Bool} {S0 : Ctx} {d : List (FuncId × List V)} {L : Nat → Bool} {c : Nat} {p : Nat → Nat} {S : Ctx} {a : Act}
structure Two (P : Program) (base : Nat) (own : Bool) (call : Qh) (ops : List Oper) (i : Nat) (q : Seq) (oi oj : Oper) (Hj : Qa) : Prop where
 lt : i < ops.length - 1
 ai : (Q2 ops i)[i]? = some oi
 aj : (Q2 ops i)[ops.length - 1]? = some oj
 di : oi.dst = none
 dj : oj.dst = none
 si : VE oi.op = true
 sj : VE oj.op = true
 all : ∀ k o,(Q2 ops i)[k]? = some o → Pf P own ops (Q2 ops i) i oi oj k o = true
 b1 : ∃ v,Zn P base own call (Q2 ops i) oj (q.T (ops.length - 1)) (q.H i) = some (.ret v,Hj)
 b2 : ∃ v,Zn P base own call (Q2 ops i) oi (q.T i) Hj = some (.ret v,q.H ops.length)
theorem Wn {A : List Oper} {oi oj : Oper} {k : Nat} {o : Oper} (h : Pf P own ops A i oi oj k o = true) :
  o.guard = none ∧ (k = i ∨ k = ops.length - 1 ∨ quiet (kindOf P own A o.dst o.op) = true ∨ ahead (Yv ops []) (ops.length - 1) k = true) ∧
  (k ≤ i ∨ k = ops.length - 1 ∨ quiet (kindOf P own A o.dst o.op) = true) ∧
  (∀ s,i < k → o.dst = some s → s ∉ Oper.looksAt A.toArray oi) ∧ (∀ s,o.dst = some s → s ∈ Oper.looksAt A.toArray oj → ahead (Yv ops []) (ops.length - 1) k = true) := by
 simp only [Pf,Bool.and_eq_true,Bool.or_eq_true,beq_iff_eq,decide_eq_true_eq] at h
 obtain ⟨⟨⟨⟨h1,h2⟩,h3⟩,h4⟩,h5⟩ := h
 refine ⟨by simpa using h1,?_,?_,fun s hs hd => ?_,fun s hd hs => ?_⟩
 ·rcases h2 with ((h | h) | h) | h <;> simp [h]
 ·rcases h3 with (h | h) | h <;> simp [h]
 ·rcases h4 with h | h
  ·omega
  ·rw [hd] at h; simpa using h
 ·rw [hd] at h5
  rcases Bool.or_eq_true _ _ ▸ h5 with h | h
  ·simp [hs] at h
  ·exact h
theorem G8 {k : Kind} (h : quiet k = true) : Je k = false ∧ k ≠ .load := by
 cases k <;> simp_all [quiet,Je]
structure Inv2 (T : ZT) (P : Program) (base : Nat) (own : Bool) (ops : List Oper) (i : Nat) (q : Seq) (S0 : Ctx) (d : List (FuncId × List V)) (Hj : Qa) (L : Nat → Bool) (S : Ctx) (a : Act) : Prop where
 closed : Closed ops L
 lj : L (ops.length - 1) = true
 ext : Ext S0 S
 sim : Sim T S
 bd : Bd base S0.H S.H
 H : S.H = if L i = true then q.H ops.length else Hj
 size : (q.T 0).length ≤ a.tmps.size
 tmps : ∀ s k,k ≤ ops.length → (∀ x,x < k → YB (Q2 ops i) x s → L x = true) → (∀ y,k ≤ y → YB (Q2 ops i) y s → L y = false) → Rel S ((q.T k).getD s .junk) (a.tmps.getD s undef)
 rest : ∀ k o,(Q2 ops i)[k]? = some o → L k = false → k = i ∨ quiet (kindOf P own (Q2 ops i) o.dst o.op) = true
 d : RelD S d a.defers
section
variable {oi oj : Oper} {Hj : Qa}
variable (F : Fix T P base own call (Q2 ops i) ops.length q X S0) (W : Two P base own call ops i q oi oj Hj)
include F
theorem EK {k : Nat} (h : k < ops.length) : X k = true := by
 cases hX : X k with
 | true => rfl
 | false =>
  have hk : k < (Q2 ops i).length := by rw [W5]; exact h
  rcases (F.tr.skip k _ (List.getElem?_eq_getElem hk) hX).2.2 with e | e
  ·omega
  ·have := F.lt e; omega
theorem QcI {k l : Nat} (h : Dir ops k l) : l < k := (Aft.dir _ _ (QdW (i := i) h)).lt F.edges
theorem Ch {k l : Nat} (h : Aft (Q2 ops i) k l) (hk : k ≠ ops.length - 1) : Aft ops k l := by
 induction h with
 | dir k l h =>
  rcases Cu h with h | h
  ·exact .dir _ _ h
  ·exact absurd h.1 hk
 | step k m l h r ih =>
  have hm := (Aft.dir _ _ h).lt F.edges
  have hkl : k < ops.length := by
   obtain ⟨o,_,ho,_⟩ := h
   have := (List.getElem?_eq_some_iff.1 ho).1
   rwa [W5] at this
  rcases Cu h with h | h
  ·exact .step _ _ _ h (ih (by omega))
  ·exact absurd h.1 hk
include W
theorem BL {k s : Nat} (h : YB (Q2 ops i) k s) : k ≠ i ∧ k ≠ ops.length - 1 ∧ k < ops.length := by
 obtain ⟨o,ho,hd⟩ := h
 refine ⟨?_,?_,?_⟩
 ·rintro rfl; rw [W.ai] at ho; injection ho with ho; subst ho; rw [W.di] at hd; cases hd
 ·rintro rfl; rw [W.aj] at ho; injection ho with ho; subst ho; rw [W.dj] at hd; cases hd
 ·have := (List.getElem?_eq_some_iff.1 ho).1
  rwa [W5] at this
theorem Inv2.relT (I : Inv2 T P base own ops i q S0 d Hj L S a) {x : Nat} (R : Ready ops L x) {o : Oper} (ho : (Q2 ops i)[x]? = some o) (hxj : x ≠ ops.length - 1) :
  Zv S (WC (Oper.looksAt (Q2 ops i).toArray o) (q.T x)) a.tmps := by
 have hx := (List.getElem?_eq_some_iff.1 ho).1
 rw [W5] at hx
 refine ⟨?_,fun s => ?_⟩
 ·rw [WC,M5,F.len x (by rw [W5]; omega)]; exact I.size
 ·rw [L0]
  split
  ·rename_i h
   have hs : s ∈ Oper.looksAt (Q2 ops i).toArray o := by simpa using h
   refine I.tmps s x (by omega) (fun y h1 h2 => ?_) (fun y h1 h2 => ?_)
   ·exact R.aft I.closed (Ch F (Jc (F.look1 h1 h2 ho hs)) hxj)
   ·by_cases e : y = x
    ·subst e; exact R.1
    ·cases hL : L y with
     | false => rfl
     | true =>
      have h3 := I.closed.aft (Ch F (Jc (F.look2 (by omega) h2 ho hs)) (BL F W h2).2.1) hL
      rw [R.1] at h3; cases h3
  ·exact .junk _
theorem Inv2.add (I : Inv2 T P base own ops i q S0 d Hj L S a) {x : Nat} (R : Ready ops L x) {o : Oper} (ho : (Q2 ops i)[x]? = some o) {S' : Ctx} {u : Value} (hH : S'.H = if Ev.add L x i = true then q.H ops.length else Hj)
  (hx : Ext S S') (hs : Sim T S') (hbd : Bd base S.H S'.H) (hu : x ≠ i → Rel S' (q.R x) u) : Inv2 T P base own ops i q S0 d Hj (Ev.add L x) S' (a.put o.dst u) := by
 have hxl := (List.getElem?_eq_some_iff.1 ho).1
 rw [W5] at hxl
 have keepA : ∀ s,¬ YB (Q2 ops i) x s → (a.put o.dst u).tmps.getD s undef = a.tmps.getD s undef := fun s h => by
  cases hd : o.dst with
  | none => rfl
  | some e =>
   have : e ≠ s := fun h' => h ⟨o,ho,by rw [hd,h']⟩
   simp [Act.put,Array.getElem?_setIfInBounds_ne this]
 have hsz : (a.put o.dst u).tmps.size = a.tmps.size := by cases o.dst <;> simp [Act.put]
 have hxj : x ≠ ops.length - 1 := by rintro rfl; have := R.1; rw [I.lj] at this; cases this
 refine ⟨R.closed I.closed,by rw [Yw (Ne.symm hxj)]; exact I.lj,I.ext.trans hx,hs,I.bd.trans hbd I.ext.len,hH,by rw [hsz]; exact I.size,fun s k hk h1 h2 => ?_,fun k o' hk hL => I.rest k o' hk (Rn hL).2,by rw [put_defers]; exact I.d.mono hx⟩
 by_cases hd : YB (Q2 ops i) x s
 ·have hxk : x < k := by
   rcases Nat.lt_or_ge x k with h | h
   ·exact h
   ·have := h2 x h hd
    rw [Ba] at this; cases this
  have none : ∀ y,x < y → y < k → YB (Q2 ops i) y s → X y = false := fun y y1 y2 y3 => by
   have hy := h1 y y2 y3
   rw [Yw (by omega)] at hy
   have h3 := I.closed.aft (Ch F (Jc (F.dd y1 hd y3)) (BL F W y3).2.1) hy
   rw [R.1] at h3; cases h3
  rw [F.tput hxk (by rw [W5]; exact hk) hd (EK F hxl) none]
  split
  ·rename_i hlt
   have hu' := hu (BL F W hd).1
   obtain ⟨o',ho',hd'⟩ := hd
   rw [ho] at ho'; injection ho' with ho'; subst ho'
   have : s < a.tmps.size := Nat.lt_of_lt_of_le hlt I.size
   rw [hd']
   simpa [Act.put,this] using hu'
  ·exact .junk _
 ·rw [keepA s hd]
  refine (I.tmps s k hk (fun y y1 y2 => ?_) (fun y y1 y2 => (Rn (h2 y y1 y2)).2)).mono hx
  have hne : y ≠ x := by rintro rfl; exact hd y2
  have := h1 y y1 y2
  rwa [Yw hne] at this
theorem Inv2.done (I : Inv2 T P base own ops i q S0 d Hj L S a) (hL : ∀ k,k < ops.length → L k = true) : YJ T base S0 .normal { t := q.T ops.length,H := q.H ops.length,d := d } .normal a S.w := by
 have hi := W.lt
 have hH := I.H
 rw [if_pos (hL i (by omega))] at hH
 refine YJ.drop I.ext I.sim hH rfl (by have := I.bd; rw [hH] at this; exact this) trivial ⟨?_,fun s => ?_⟩ I.d
 ·rw [F.len _ (by rw [W5]; exact Nat.le_refl _)]; exact I.size
 ·exact I.tmps s ops.length (Nat.le_refl _) (fun x h1 h2 => hL x h1) (fun y h1 h2 => by have := (BL F W h2).2.2; omega)
theorem Qji {Q : Exit → Act → World → Prop} (hQ : ∀ a' w',YJ T base S0 .normal { t := q.T ops.length,H := q.H ops.length,d := d } .normal a' w' → Q .normal a' w') : ∀ (fuel : Nat) (listed : Array Bool) (l : List Nat) {S : Ctx} {a : Act},
  listed.size = ops.length → l.length ≤ fuel → (∀ k,k < ops.length → listed.getD k false = false → k ∈ l) → Inv2 T P base own ops i q S0 d Hj (fun k => listed.getD k false) S a →
  wpAny P .any ops.toArray Q fuel listed a S.w := by
 intro fuel
 induction fuel with
 | zero =>
  intro listed l S a hs hl hc I
  have hL : ∀ k,k < ops.length → listed.getD k false = true := fun k hk => by
   cases h : listed.getD k false with
   | true => rfl
   | false =>
    have := hc k hk h
    rw [List.eq_nil_of_length_eq_zero (by omega : l.length = 0)] at this; cases this
  refine ⟨?_,hQ _ _ (I.done F W hL)⟩
  cases hr : Region.ready .any ops.toArray listed with
  | nil => rfl
  | cons x xs =>
   have := (Nw hs).1 (show x ∈ Region.ready .any ops.toArray listed by rw [hr]; exact List.mem_cons_self)
   obtain ⟨h1,⟨o,h2⟩,_⟩ := this
   have h3 := hL x (List.getElem?_eq_some_iff.1 h2).1
   have h1' : listed.getD x false = false := h1
   rw [h1'] at h3; cases h3
 | succ fuel ih =>
  intro listed l S a hs hl hc I
  refine ⟨fun hr => hQ _ _ (I.done F W fun k hk => Qap (fun k l => QcI F) hs hr k k (Nat.le_refl _) hk),fun x hx => ?_⟩
  have R := (Nw hs).1 hx
  obtain ⟨o,ho⟩ := R.2.1
  have hxl : x < ops.length := (List.getElem?_eq_some_iff.1 ho).1
  have hxj : x ≠ ops.length - 1 := by rintro rfl; exact absurd (R.1.symm.trans I.lj) (by simp)
  have hA : (Q2 ops i)[x]? = some o := by rw [LJ hxj]; exact ho
  have hg := (Wn (W.all x o hA)).1
  have hbase : base ≤ S.H.length := Nat.le_trans F.base I.ext.len
  have next : ∀ {S' : Ctx} {a' : Act},Inv2 T P base own ops i q S0 d Hj (Ev.add (fun k => listed.getD k false) x) S' a' → wpAny P .any ops.toArray Q fuel (listed.setIfInBounds x true) a' S'.w := fun {S' a'} I' => by
   rw [← P3 (by omega)] at I'
   refine ih _ (l.erase x) (by simp [hs]) ?_ (fun k hk hkf => ?_) I'
   ·have : x ∈ l := hc x hxl R.1
    rw [List.length_erase_of_mem this]
    have := List.length_pos_of_mem this
    omega
   ·have hki : k ≠ x := by
     rintro rfl
     have hks : k < listed.size := by omega
     simp [hks] at hkf
    rw [getD_set_ne false (Ne.symm hki)] at hkf
    exact (List.mem_erase_of_ne hki).2 (hc k hk hkf)
  refine C4 ho (Qdi (ops := Q2 ops i) hg ?_)
  have hT := Inv2.relT F W I R hA hxj
  by_cases hxi : x = i
  ·subst hxi
   rw [W.ai] at hA; injection hA with hA; subst hA
   obtain ⟨v,hb⟩ := W.b2
   have hH := I.H
   rw [if_neg (by have := R.1; simp [this])] at hH
   rw [← hH,← Rv] at hb
   refine UK F.call I.sim hbase hT hb (fun v' hv' S' u to hu => ?_) (fun v' hv' => by cases hv')
   exact next (Inv2.add F W I R W.ai (by rw [Ba,if_pos rfl]; exact to.H) to.ext to.sim (by rw [to.H]; exact to.bd) (fun h => absurd rfl h))
  ·rcases I.rest x o hA R.1 with h | h
   ·exact absurd h hxi
   ·obtain ⟨k1,k2⟩ := G8 h
    obtain ⟨s1,s2,s3⟩ := F.tr.step x o hA (EK F hxl)
    obtain ⟨e1,v,e2,e3⟩ := (Ma s2).1 k1
    injection e2 with e2
    have e4 := e3 S.H fun hl => absurd hl k2
    rw [← Rv] at e4
    refine UK F.call I.sim hbase hT e4 (fun v' hv' S' u to hu => ?_) (fun v' hv' => by cases hv')
    cases hv'
    exact next (Inv2.add F W I R hA (by rw [Yw (Ne.symm hxi),to.H]; exact I.H) to.ext to.sim (by rw [to.H]; exact to.bd) (fun _ => by rw [e2]; exact hu))
theorem Qpe {e : Ex} {st' : St} (hf : Fin P base own call (Q2 ops i) ops.length q d e st') {Q : Exit → Act → World → Prop} (hQ : ∀ e' a' w',YJ T base S0 e st' e' a' w' → Q e' a' w') : ∀ (fuel : Nat) (listed : Array Bool) (l : List Nat) {c : Nat} {p : Nat → Nat} {S : Ctx} {a : Act},
  listed.size = ops.length → l.length ≤ fuel → (∀ k,k < ops.length → listed.getD k false = false → k ∈ l) → Inv T P base own (Q2 ops i) q X S0 d (fun k => listed.getD k false) c p S a → Max P own (Q2 ops i) (fun k => listed.getD k false) c →
  wpAny P .any ops.toArray Q fuel listed a S.w := by
 have hn : (Q2 ops i).length = ops.length := W5
 have hfn : e = .normal ∧ st' = { t := q.T ops.length,H := q.H ops.length,d := d } := by
  rcases hf with ⟨f1,f2,f3⟩ | ⟨v,H',o,ho,_⟩
  ·rw [hn] at f3; exact ⟨f2,f3⟩
  ·have := (List.getElem?_eq_some_iff.1 ho).1; omega
 have hi := W.lt
 intro fuel
 induction fuel with
 | zero =>
  intro listed l c p S a hs hl hc I hm
  have hL : ∀ k,k < ops.length → listed.getD k false = true := fun k hk => by
   cases h : listed.getD k false with
   | true => rfl
   | false =>
    have := hc k hk h
    rw [List.eq_nil_of_length_eq_zero (by omega : l.length = 0)] at this; cases this
  refine ⟨?_,hQ _ _ _ (I.done F hm hf (by rw [hn]; exact hL))⟩
  cases hr : Region.ready .any ops.toArray listed with
  | nil => rfl
  | cons x xs =>
   have := (Nw hs).1 (show x ∈ Region.ready .any ops.toArray listed by rw [hr]; exact List.mem_cons_self)
   obtain ⟨h1,⟨o,h2⟩,_⟩ := this
   have h3 := hL x (List.getElem?_eq_some_iff.1 h2).1
   have h1' : listed.getD x false = false := h1
   rw [h1'] at h3; cases h3
 | succ fuel ih =>
  intro listed l c p S a hs hl hc I hm
  refine ⟨fun hr => hQ _ _ _ (I.done F hm hf (by rw [hn]; exact fun k hk => Qap (fun k l => QcI F) hs hr k k (Nat.le_refl _) hk)),fun x hx => ?_⟩
  have R := (Nw hs).1 hx
  obtain ⟨o,ho⟩ := R.2.1
  have hxl : x < ops.length := (List.getElem?_eq_some_iff.1 ho).1
  have hA : (Q2 ops i)[x]? = some (Q2 ops i)[x] := List.getElem?_eq_getElem (by omega)
  have hcl : Closed ops (fun k => listed.getD k false) := fun a b h1 h2 => I.closed a b h1 (QdW h2)
  have lel : (l.erase x).length ≤ fuel := by
   have : x ∈ l := hc x hxl R.1
   rw [List.length_erase_of_mem this]
   have := List.length_pos_of_mem this
   omega
  have hce : ∀ k,k < ops.length → (listed.setIfInBounds x true).getD k false = false → k ∈ l.erase x := fun k hk hkf => by
   have hki : k ≠ x := by
    rintro rfl
    have hks : k < listed.size := by omega
    simp [hks] at hkf
   rw [getD_set_ne false (Ne.symm hki)] at hkf
   exact (List.mem_erase_of_ne hki).2 (hc k hk hkf)
  refine C4 ho ?_
  by_cases hxj : x = ops.length - 1 ∧ listed.getD i false = false
  ·obtain ⟨rfl,hLi⟩ := hxj
   have hbase : base ≤ S.H.length := Nat.le_trans F.base I.ext.len
   have effL : ∀ k,Yc P own (Q2 ops i) k → k ≠ i → k ≠ ops.length - 1 → listed.getD k false = true := fun k he k1 k2 => by
    obtain ⟨ok,hok,hek⟩ := he
    rcases (Wn (W.all k ok hok)).2.1 with h | h | h | h
    ·exact absurd h k1
    ·exact absurd h k2
    ·rw [(G8 h).1] at hek; cases hek
    ·exact R.aft hcl (Jc h)
   have store_eff : ∀ {o : Oper} {k},VE o.op = true → (Q2 ops i)[k]? = some o → Yc P own (Q2 ops i) k := fun {o k} h1 h2 => ⟨o,h2,by
    cases hop : o.op <;> rw [hop] at h1 <;> simp [VE] at h1
    rfl⟩
   have hei := store_eff W.si W.ai
   have hci : c = i := by
    have h1 : c ≤ i := by
     rcases Nat.lt_or_ge i c with h | h
     ·have h3 : listed.getD i false = true := I.com i h hei
      rw [hLi] at h3; cases h3
     ·exact h
    obtain ⟨m1,m2⟩ := hm (by omega)
    by_cases h : c = i
    ·exact h
    ·have h3 := effL c m1 h (by omega)
     exact absurd (h3.symm.trans m2) (by simp)
   have noEff : ∀ {k s},YB (Q2 ops i) k s → ¬ (c ≤ k ∧ Yc P own (Q2 ops i) k) := fun {k s} hd hh => by
    obtain ⟨k1,k2,k3⟩ := BL F W hd
    obtain ⟨ok,hok,hek⟩ := hh.2
    rcases (Wn (W.all k ok hok)).2.2.1 with h | h | h
    ·omega
    ·exact k2 h
    ·rw [(G8 h).1] at hek; cases hek
   obtain ⟨v,hb⟩ := W.b1
   rw [show q.H i = S.H by rw [I.H,hci],← Rv] at hb
   have hT : Zv S (WC (Oper.looksAt (Q2 ops i).toArray oj) (q.T (ops.length - 1))) a.tmps := by
    refine ⟨?_,fun s => ?_⟩
    ·rw [WC,M5,F.len _ (by omega)]; exact I.size
    ·rw [L0]
     split
     ·rename_i h
      have hs : s ∈ Oper.looksAt (Q2 ops i).toArray oj := by simpa using h
      refine I.tmps s _ (by omega) (fun y h1 h2 => ⟨?_,noEff h2⟩) (fun y h1 h2 => ?_)
      ·obtain ⟨oy,hoy,hdy⟩ := h2
       exact R.aft hcl (Jc ((Wn (W.all y oy hoy)).2.2.2.2 s hdy hs))
      ·have := BL F W h2; omega
     ·exact .junk _
   have hoj : oj = { o with after := o.after.push { on := i,ground := .phase } } := by
    have := W.aj
    rw [Mu,ho] at this
    injection this with this
    exact this.symm
   have hgo : o.guard = none := by
    have := (Wn (W.all _ oj W.aj)).1
    rw [hoj] at this
    exact this
   have hdo : o.dst = none := by
    have := W.dj
    rw [hoj] at this
    exact this
   refine Qd4 (ops := Q2 ops i) (es := o.after.push { on := i,ground := .phase }) hgo ?_
   rw [← hoj]
   refine UK F.call I.sim hbase hT hb (fun v' hv' S' u to hu => ?_) (fun v' hv' => by cases hv')
   have I2 : Inv2 T P base own ops i q S0 d Hj (Ev.add (fun k => listed.getD k false) (ops.length - 1)) S' (a.put oj.dst u) := by
    rw [W.dj]
    have hij : i ≠ ops.length - 1 := by omega
    refine ⟨R.closed hcl,Ba _ _,I.ext.trans to.ext,to.sim,I.bd.trans (by rw [to.H]; exact to.bd) I.ext.len,by rw [Yw hij,if_neg (by simp only [hLi]; simp)]; exact to.H,I.size,fun s k hk h1 h2 => ?_,fun k ok hok hkL => ?_,I.d.mono to.ext⟩
    ·refine (I.tmps s k (by omega) (fun y y1 y2 => ⟨?_,noEff y2⟩) (fun y y1 y2 => (Rn (h2 y y1 y2)).2)).mono to.ext
     have := h1 y y1 y2
     rwa [Yw (BL F W y2).2.1] at this
    ·obtain ⟨k1,k2⟩ := Rn hkL
     rcases (Wn (W.all k ok hok)).2.1 with h | h | h | h
     ·exact .inl h
     ·exact absurd h k1
     ·exact .inr h
     ·have := R.aft hcl (Jc h)
      rw [k2] at this; cases this
   rw [← P3 (by omega)] at I2
   exact Qji F W (fun a' w' h => hQ _ _ _ (by rw [hfn.1,hfn.2]; exact h)) fuel _ (l.erase _) (by simp [hs]) lel hce I2
  ·have R' : Ready (Q2 ops i) (fun k => listed.getD k false) x := ⟨R.1,⟨_,hA⟩,fun y hd => by
    rcases Cu hd with h | ⟨h1,h2⟩
    ·exact R.2.2 y h
    ·subst h2
     cases hy : listed.getD y false with
     | true => exact hy
     | false => exact absurd ⟨h1,hy⟩ hxj⟩
   have key : Jy P (Q2 ops i) (Q2 ops i)[x] (wpAny P .any ops.toArray Q fuel (listed.setIfInBounds x true)) Q a S.w := Qb8 F hf hQ I hm R' hA fun {c' p' S' a'} I' hm' => by
    rw [← P3 (by omega)] at I' hm'
    exact ih _ (l.erase x) (by simp [hs]) lel hce I' hm'
   by_cases hx2 : x = ops.length - 1
   ·subst hx2
    have hoj := hA
    rw [Mu,ho] at hoj
    injection hoj with hoj
    rw [← hoj] at key
    have hgo : o.guard = none := by
     have := (Wn (W.all _ _ (by rw [Mu,ho]; rfl))).1
     exact this
    exact Qd4 hgo key
   ·have hoj := hA
    rw [LJ hx2,ho] at hoj
    injection hoj with hoj
    rw [← hoj] at key
    exact Qdi (Wn (W.all x o (by rw [LJ hx2]; exact ho))).1 key
end
end Go.Ev
end
section
namespace Go.Ev
variable {T : ZT}
variable {P : Program} {own : Bool} {A ops : List Oper} {base : Nat} {call : Qh} {i : Nat} {q : Seq}
def AR (P : Program) (base : Nat) (own : Bool) (call : Qh) (A : List Oper) (q : Seq) : Prop := ∀ k o,A[k]? = some o → Yq A (q.T k) o = some (q.W k) ∧ Zn P base own call A o (q.T k) (q.H k) = some (.ret (q.R k),q.H (k + 1)) ∧ q.T (k + 1) = Z8 (q.T k) o.dst (q.R k)
theorem TJ {o : Oper} {t : List V} {H : Qa} {z : Out × Qa} (hg : o.guard = none) (h : Zn P base own call A o t H = some z) : kindOf P own A o.dst o.op ≠ .defer := fun hk => by
 unfold Zn at h
 simp [Yq,hg,hk] at h
theorem QaV (hs : AR P base own call A q) (hg : ∀ (k : Nat) (o : Oper),A[k]? = some o → o.guard = none) {d : List (FuncId × List V)} {r : List Oper} {z : Ex × St} : ∀ (l : List Oper) (k : Nat),(∀ x,x < l.length → l[x]? = A[k + x]?) →
  JS P base own call A (l ++ r) { t := q.T k,H := q.H k,d := d } = some z → JS P base own call A r { t := q.T (k + l.length),H := q.H (k + l.length),d := d } = some z
 | [],k,_,h => h
 | o :: l,k,hl,h => by
  have ho : A[k]? = some o := by have := hl 0 (by simp); simpa using this.symm
  obtain ⟨s1,s2,s3⟩ := hs k o ho
  simp only [List.cons_append,JS,if_neg (TJ (hg k o ho) s2),s2,Option.bind_some,← s3] at h
  have := QaV hs hg l (k + 1) (fun x hx => by
   have := hl (x + 1) (by simp; omega)
   rw [show k + (x + 1) = k + 1 + x by omega] at this
   simpa using this) h
  rw [show k + 1 + l.length = k + (o :: l).length by simp; omega] at this
  exact this
theorem Qdf (hs : AR P base own call A q) (hg : ∀ (k : Nat) (o : Oper),A[k]? = some o → o.guard = none) {d : List (FuncId × List V)} {r : List Oper} {z : Ex × St} {G : Qa} : ∀ (l : List Oper) (k : Nat),(∀ x,x < l.length → l[x]? = A[k + x]?) →
  (∀ o ∈ l,quiet (kindOf P own A o.dst o.op) = true) →
  JS P base own call A (l ++ r) { t := q.T k,H := G,d := d } = some z → JS P base own call A r { t := q.T (k + l.length),H := G,d := d } = some z
 | [],k,_,_,h => h
 | o :: l,k,hl,hq,h => by
  have ho : A[k]? = some o := by have := hl 0 (by simp); simpa using this.symm
  obtain ⟨s1,s2,s3⟩ := hs k o ho
  obtain ⟨k1,k2⟩ := G8 (hq o (by simp))
  obtain ⟨e1,v,e2,e3⟩ := (Ma s2).1 k1
  injection e2 with e2
  have e4 := e3 G fun hl => absurd hl k2
  simp only [List.cons_append,JS,if_neg (TJ (hg k o ho) s2),e4,Option.bind_some,← e2,← s3] at h
  have := Qdf hs hg l (k + 1) (fun x hx => by
   have := hl (x + 1) (by simp; omega)
   rw [show k + (x + 1) = k + 1 + x by omega] at this
   simpa using this) (fun o' ho' => hq o' (by simp [ho'])) h
  rw [show k + 1 + l.length = k + (o :: l).length by simp; omega] at this
  exact this
theorem Qrs {i : Nat} (h : Gk P own ops = some i) : Du P own ops i = true := by
 unfold Gk at h
 obtain ⟨j,h1,h2⟩ := Option.bind_eq_some_iff.1 h
 split at h2
 ·rename_i hk
  injection h2 with h2
  subst h2; exact hk
 ·cases h2
theorem Qpd (hcall : Yb T P call) (hmix : P.follows .mixedOrders = true) {S0 S : Ctx} {st : St} {a : Act} {w : World} (hat : At T base S0 S st a w) {e : Ex} {st' : St}
  (h : Pw P base own call ops st = some (e,st')) {id : Nat} : (Code.region id ops.toArray true).wp P (YJ T base S0 e st') a w := by
 unfold Pw at h
 split at h
 ·cases h
 rename_i i hi
 have hok := Qrs hi
 obtain ⟨⟨eA,sA⟩,hA,h⟩ := Option.bind_eq_some_iff.1 h
 match eA,hA,h with
 | .normal,hA,h =>
 obtain ⟨⟨eB,sB⟩,hB,h⟩ := Option.bind_eq_some_iff.1 h
 match eB,hB,h with
 | .normal,hB,h =>
 simp only at h
 split at h
 case isFalse => cases h
 rename_i hH
 simp only [Option.some.injEq,Prod.mk.injEq] at h
 obtain ⟨rfl,rfl⟩ := h
 simp only [Du,Bool.and_eq_true,decide_eq_true_eq] at hok
 obtain ⟨⟨hlt,hdr⟩,hrest⟩ := hok
 split at hrest
 case h_2 => cases hrest
 rename_i oi oj hai haj
 simp only [Bool.and_eq_true] at hrest
 obtain ⟨⟨⟨⟨hdi,hdj⟩,hsi⟩,hsj⟩,hall⟩ := hrest
 have hdi : oi.dst = none := by simpa using hdi
 have hdj : oj.dst = none := by simpa using hdj
 have hall : ∀ k o,(Q2 ops i)[k]? = some o → Pf P own ops (Q2 ops i) i oi oj k o = true := fun k o ho => by
  have := B7 hall k o ho
  simpa using this
 obtain ⟨m,q,X,h1,h2,h3,h4,h5⟩ := QeF hA
 have hn : (Q2 ops i).length = ops.length := W5
 rcases h5 with ⟨hm,_,hsA⟩ | ⟨v,H',o,_,hp,_⟩
 case inr => cases hp
 have hm' : m = ops.length := by rw [hm,hn]
 subst hm'
 rw [hn] at hsA
 have hw0 := hat.to.w
 subst hw0
 have hg : Grew S.w { S.w with drawn := S.w.drawn + 1 } := ⟨Nat.le_refl _,fun _ _ => rfl,rfl,rfl,rfl⟩
 have hx1 := W9 hat.to.sim hg
 have hs1 := Nb hat.to.sim hg
 have F : Fix T P base own call (Q2 ops i) ops.length q X (S.at { S.w with drawn := S.w.drawn + 1 }) := ⟨h4,hdr,hcall,hs1,hat.le⟩
 have hsq : AR P base own call (Q2 ops i) q := fun k o ho => h4.step k o ho (EK F (by have := (List.getElem?_eq_some_iff.1 ho).1; omega))
 have hgd : ∀ (k : Nat) (o : Oper),(Q2 ops i)[k]? = some o → o.guard = none := fun k o ho => (Wn (hall k o ho)).1
 have hil : i < (Q2 ops i).length := by omega
 have hjl : ops.length - 1 < (Q2 ops i).length := by omega
 have eJ : (Q2 ops i).drop (ops.length - 1) = [oj] := by
  rw [List.drop_eq_getElem_cons hjl,List.drop_eq_nil_of_le (by omega)]
  rw [List.getElem?_eq_getElem hjl] at haj
  injection haj with haj
  rw [haj]
 have eP : GY (Q2 ops i) i = (Q2 ops i).take i ++ (((Q2 ops i).drop (i + 1)).take (ops.length - 1 - (i + 1)) ++ [oj,oi]) := by
  have hd : (Q2 ops i).drop (i + 1) = ((Q2 ops i).drop (i + 1)).take (ops.length - 1 - (i + 1)) ++ [oj] := by
   conv => lhs; rw [← List.take_append_drop (ops.length - 1 - (i + 1)) ((Q2 ops i).drop (i + 1))]
   rw [List.drop_drop,show i + 1 + (ops.length - 1 - (i + 1)) = ops.length - 1 by omega,eJ]
  rw [GY,List.eraseIdx_eq_take_drop_succ,hai]
  conv => lhs; rw [hd]
  simp
 rw [eP] at hB
 have hst : st = { t := q.T 0,H := q.H 0,d := st.d } := by rw [h1,h2]
 rw [hst] at hB
 have tk : ((Q2 ops i).take i).length = i := by simp; omega
 have B1 := QaV hsq hgd ((Q2 ops i).take i) 0 (fun x hx => by rw [tk] at hx; rw [List.getElem?_take_of_lt hx,Nat.zero_add]) hB
 rw [tk,Nat.zero_add] at B1
 have tI : q.T (i + 1) = q.T i := by rw [(hsq i oi hai).2.2,hdi]; rfl
 rw [← tI] at B1
 have mk : (((Q2 ops i).drop (i + 1)).take (ops.length - 1 - (i + 1))).length = ops.length - 1 - (i + 1) := by simp; omega
 have B2 := Qdf hsq hgd (((Q2 ops i).drop (i + 1)).take (ops.length - 1 - (i + 1))) (i + 1) (fun x hx => by rw [mk] at hx; rw [List.getElem?_take_of_lt hx,List.getElem?_drop]) (fun o ho => by
  obtain ⟨x,hx⟩ := List.mem_iff_getElem?.1 ho
  have hxl := (List.getElem?_eq_some_iff.1 hx).1
  rw [mk] at hxl
  rw [List.getElem?_take_of_lt hxl,List.getElem?_drop] at hx
  rcases (Wn (hall _ o hx)).2.2.1 with h | h | h
  ·omega
  ·omega
  ·exact h) B1
 rw [mk,show i + 1 + (ops.length - 1 - (i + 1)) = ops.length - 1 by omega] at B2
 have nd : ∀ {o : Oper},VE o.op = true → kindOf P own (Q2 ops i) o.dst o.op ≠ .defer := fun {o} h => by
  cases hop : o.op <;> rw [hop] at h <;> simp [VE] at h
  simp [kindOf]
 simp only [JS,if_neg (nd hsj)] at B2
 obtain ⟨⟨r1,Hj⟩,b1,B3⟩ := Option.bind_eq_some_iff.1 B2
 match r1,b1,B3 with
 | .pan v,b1,B3 => simp at B3
 | .ret v1,b1,B3 =>
 simp only [hdj,Z8,if_neg (nd hsi)] at B3
 obtain ⟨⟨r2,H2⟩,b2,B4⟩ := Option.bind_eq_some_iff.1 B3
 match r2,b2,B4 with
 | .pan v,b2,B4 => simp at B4
 | .ret v2,b2,B4 =>
 simp only [Option.some.injEq,Prod.mk.injEq,true_and] at B4
 have e2 : H2 = q.H ops.length := by
  have : sB.H = H2 := by rw [← B4]
  rw [← this,← hH,hsA]
 have eT : Zn P base own call (Q2 ops i) oi (q.T (ops.length - 1)) Hj = Zn P base own call (Q2 ops i) oi (q.T i) Hj := QaT fun s hs => by
  refine F.tsame (ops.length - 1) (by omega) (by omega) fun y y1 y2 y3 => ?_
  exfalso
  obtain ⟨oy,hoy,hdy⟩ := y3
  by_cases hyi : y = i
  ·subst hyi
   rw [hai] at hoy; injection hoy with hoy; subst hoy
   rw [hdi] at hdy; cases hdy
  ·exact (Wn (hall y oy hoy)).2.2.2.1 s (by omega) hdy hs
 have W : Two P base own call ops i q oi oj Hj := ⟨hlt,hai,haj,hdi,hdj,hsi,hsj,hall,⟨v1,b1⟩,⟨v2,by rw [← eT,← e2]; exact b2⟩⟩
 have hf : Fin P base own call (Q2 ops i) ops.length q st.d .normal sA := .inl ⟨hn.symm,rfl,by rw [hn]; exact hsA⟩
 have I0 : Inv T P base own (Q2 ops i) q X (S.at { S.w with drawn := S.w.drawn + 1 }) st.d (fun k => (Array.replicate ops.length false).getD k false) 0 (fun _ => 0) (S.at { S.w with drawn := S.w.drawn + 1 }) a := by
  have hL : ∀ k,(Array.replicate ops.length false).getD k false = false := fun k => by simp [Array.getElem?_replicate]; split <;> simp
  refine ⟨fun i j hi => ?_,fun k hk => ?_,Ext.refl _,hs1,Bd.refl _ _,by rw [h2]; exact hat.to.H,Nat.zero_le _,fun k hk => by omega,by rw [h1]; exact hat.t.1,fun s k hk g1 g2 => ?_,fun k hk => ?_,fun k hk => ?_,fun k k' hk => ?_,fun z hz => .inl hz,hat.d.mono hx1⟩
  ·rw [hL] at hi; cases hi
  ·rw [hL] at hk; cases hk
  ·rw [F.tsame k (Nat.zero_le _) hk (fun j j1 j2 j3 => by have := (g1 j j2 j3).1; rw [hL] at this; cases this),h1]
   exact (hat.t.2 s).mono hx1
  ·rw [hL] at hk; cases hk
  ·rw [hL] at hk; cases hk
  ·rw [hL] at hk; cases hk
 obtain ⟨c',S',I1,w1,hmx⟩ := Inv.advance F _ _ (Nat.le_refl _) I0
 have to1 : To T base S (S.at { S.w with drawn := S.w.drawn + 1 }) st.H { S.w with drawn := S.w.drawn + 1 } := ⟨hat.to.H,rfl,rfl,hx1,hs1,by rw [hat.to.H]; exact Bd.refl _ _⟩
 have key := Qpe F W hf (Q := YJ T base S0 .normal sA) (fun e' a' w' ⟨S2,t1,t2,t3,t4⟩ => ⟨S2,(hat.to.trans to1).trans t1,t2,t3,t4⟩) ops.length (Array.replicate ops.length false) (List.range ops.length) (by simp) (by simp) (fun k hk _ => by simpa using hk) I1 hmx
 rw [w1] at key
 refine wp_region_any hmix ?_
 rw [show ops.toArray.size = ops.length by simp]
 exact key
end Go.Ev
end
section
namespace Go.Ev
variable {T : ZT}
variable {P : Program} {base : Nat} {own : Bool} {ks : Ks} {call : Qh} {loop : JL}
def KF (T : ZT) (P : Program) (loop : JL) : Prop := ∀ base own ks b st e st',loop base own ks b st = some (e,st') →
 ∃ n,∀ (S0 S : Ctx) (a : Act) (w : World),At T base S0 S st a w → Code.rounds P b (YJ T base S0 e st') n a w
theorem YJ.at {S0 : Ctx} {st : St} {e' : Exit} {a : Act} {w : World} (hb : base ≤ S0.H.length) (h : YJ T base S0 .normal st e' a w) : e' = .normal ∧ ∃ S,At T base S0 S st a w := by
 obtain ⟨S,h1,h2,h3,h4⟩ := h
 cases e' <;> first
  | exact h2.elim
  | exact ⟨rfl,S,h1,h3,h4,hb⟩
theorem Zv.trimK {S : Ctx} {l : List Nat} {t : List V} {tmps : Array Value} (h : Zv S t tmps) : Zv S (Ev.trim l 0 t) tmps := by
 refine ⟨by rw [M5]; exact h.1,fun s => ?_⟩
 have := L0 l t s
 rw [WC] at this
 rw [this]
 split
 ·exact h.2 s
 ·exact .junk _
theorem Zv.trim {S : Ctx} {c : Code} {t : List V} {tmps : Array Value} (h : Zv S t tmps) : Zv S (BS ks c t) tmps := by
 unfold BS
 split
 ·exact h
 ·split
  ·exact h
  ·exact h.trimK
theorem VB (hcall : Yb T P call) (hloop : KF T P loop) (hmix : P.follows .mixedOrders = true) : ∀ (c : Code) {st st' : St} {e : Ex},evC P base own ks call loop c st = some (e,st') →
  ∀ {S0 S : Ctx} {a : Act} {w : World},At T base S0 S st a w → c.wp P (YJ T base S0 e st') a w
 | .skip,st,st',e,h,S0,S,a,w,hat => by
  simp [evC] at h; obtain ⟨rfl,rfl⟩ := h
  exact wp_skip hat.normal
 | .label l,st,st',e,h,S0,S,a,w,hat => by
  simp [evC] at h; obtain ⟨rfl,rfl⟩ := h
  exact wp_label hat.normal
 | .region id ops draw,st,st',e,h,S0,S,a,w,hat => by
  simp only [evC] at h
  cases draw with
  | true =>
   simp only [if_true] at h
   split at h
   ·rename_i hok
    have := QjZ hcall hmix hat hok h (id := id)
    simpa using this
   ·have := Qpd hcall hmix hat h (id := id)
    simpa using this
  | false =>
   simp only [Bool.false_eq_true,if_false] at h
   refine wp_region ?_
   have := DI hcall (ops := ops.toList) ops.toList [] st rfl hat h
   simpa [List.range_eq_range'] using this
 | .seq x y,st,st',e,h,S0,S,a,w,hat => by
  simp only [evC] at h
  cases hx : evC P base own ks call loop x st with
  | none => simp [hx] at h
  | some r =>
   obtain ⟨e1,st1⟩ := r
   simp only [hx,Option.bind_some] at h
   refine wp_seq (wp_mono (VB hcall hloop hmix x hx hat) fun e' a' w' hp => ?_)
   cases e1 with
   | normal =>
    obtain ⟨rfl,S1,hat1⟩ := hp.at hat.b
    exact VB hcall hloop hmix y h ⟨hat1.to,hat1.t.trim,hat1.d,hat1.b⟩
   | _ =>
    simp at h
    obtain ⟨rfl,rfl⟩ := h
    obtain ⟨S1,h1,h2,h3,h4⟩ := hp
    cases e' <;> first
     | exact h2.elim
     | exact ⟨S1,h1,h2,h3,h4⟩
 | .cond c x y,st,st',e,h,S0,S,a,w,hat => by
  simp only [evC] at h
  have hr := ZL hat.t c
  split at h
  ·rename_i hc
   rw [hc] at hr
   exact wp_cond_true (Ri hr) (VB hcall hloop hmix x h hat)
  ·rename_i hc
   rw [hc] at hr
   exact wp_cond_false (Ri hr) (VB hcall hloop hmix y h hat)
  ·simp at h
 | .block id b,st,st',e,h,S0,S,a,w,hat => by
  simp only [evC] at h
  cases hx : evC P base own ks call loop b st with
  | none => simp [hx] at h
  | some r =>
   obtain ⟨e1,st1⟩ := r
   simp only [hx,Option.bind_some] at h
   refine wp_block (wp_mono (VB hcall hloop hmix b hx hat) fun e' a' w' hp => ?_)
   obtain ⟨S1,h1,h2,h3,h4⟩ := hp
   cases e1 with
   | exit j =>
    cases e' <;> first
     | exact h2.elim
     | skip
    rename_i j'
    have hj : j = j' := h2
    subst hj
    simp only at h
    simp only [Exit.inBlock]
    split at h
    ·simp at h
     obtain ⟨rfl,rfl⟩ := h
     rename_i hid
     rw [if_pos hid]
     exact ⟨S1,h1,trivial,h3,h4⟩
    ·simp at h
     obtain ⟨rfl,rfl⟩ := h
     rename_i hid
     rw [if_neg hid]
     exact ⟨S1,h1,rfl,h3,h4⟩
   | _ =>
    simp at h
    obtain ⟨rfl,rfl⟩ := h
    cases e' <;> first
     | exact h2.elim
     | exact ⟨S1,h1,h2,h3,h4⟩
 | .loop b,st,st',e,h,S0,S,a,w,hat => by
  simp only [evC] at h
  obtain ⟨n,hn⟩ := hloop _ _ _ _ _ _ _ h
  exact wp_loop_rounds n (hn S0 S a w hat)
 | .scope b,st,st',e,h,S0,S,a,w,hat => by
  simp only [evC] at h
  refine wp_scope_straight (wp_mono (VB hcall hloop hmix b h hat) fun e' a' w' hp => ?_)
  cases e' with
  | goto l => obtain ⟨S1,h1,h2,h3,h4⟩ := hp; cases e <;> exact h2.elim
  | _ => exact hp
 | .exit id,st,st',e,h,S0,S,a,w,hat => by
  simp [evC] at h; obtain ⟨rfl,rfl⟩ := h
  exact wp_exit (YJ.of hat rfl)
 | .ret,st,st',e,h,S0,S,a,w,hat => by
  simp [evC] at h; obtain ⟨rfl,rfl⟩ := h
  exact wp_ret (YJ.of hat trivial)
 | .goto l,st,st',e,h,S0,S,a,w,hat => by simp [evC] at h
 | .rangeFunc ..,st,st',e,h,S0,S,a,w,hat => by simp [evC] at h
theorem Qel (hcall : Yb T P call) (hloop : KF T P loop) (hmix : P.follows .mixedOrders = true) : KF T P (Ww P call loop) := by
 intro base own ks b st e st' h
 unfold Ww at h
 cases hx : evC P base own ks call loop b { t := BS ks b st.t,H := st.H,d := st.d } with
 | none => simp [hx] at h
 | some r =>
  obtain ⟨e1,st1⟩ := r
  simp only [hx,Option.bind_some] at h
  have body : ∀ (S0 S : Ctx) (a : Act) (w : World),At T base S0 S st a w → b.wp P (YJ T base S0 e1 st1) a w := fun S0 S a w hat =>
   VB hcall hloop hmix b hx ⟨hat.to,hat.t.trim,hat.d,hat.b⟩
  cases e1 with
  | normal =>
   obtain ⟨n,hn⟩ := hloop _ _ _ _ _ _ _ h
   refine ⟨n + 1,fun S0 S a w hat => ?_⟩
   rw [rounds_succ]
   refine wp_mono (body S0 S a w hat) fun e' a' w' hp => ?_
   obtain ⟨rfl,S1,hat1⟩ := hp.at hat.b
   exact hn S0 S1 a' w' hat1
  | _ =>
   simp at h
   obtain ⟨rfl,rfl⟩ := h
   refine ⟨1,fun S0 S a w hat => ?_⟩
   rw [rounds_succ]
   refine wp_mono (body S0 S a w hat) fun e' a' w' hp => ?_
   obtain ⟨S1,h1,h2,h3,h4⟩ := hp
   cases e' <;> first
    | exact h2.elim
    | exact ⟨S1,h1,h2,h3,h4⟩
end Go.Ev
end
section
namespace Go.Ev
variable {T : ZT}
variable {P : Program}
theorem Uj : ∀ {v : V},v.clean = true → v.maxRef = 0 := by
 have key : ∀ n (v : V),SizeOf.sizeOf v < n → v.clean = true → v.maxRef = 0 := by
  intro n
  induction n with
  | zero => intro v h; omega
  | succ n ih =>
   have ihL : ∀ (l : List V),SizeOf.sizeOf l < n + 1 → Zd l = true → Yd l = 0 := by
    intro l
    induction l with
    | nil => intro _ _; rfl
    | cons x l ih2 =>
     intro hs h
     simp only [Zd,Bool.and_eq_true] at h
     simp only [List.cons.sizeOf_spec] at hs
     simp [Yd,ih x (by omega) h.1,ih2 (by omega) h.2]
   intro v hs h
   cases v <;> simp [V.clean] at h <;> simp [V.maxRef] <;> simp at hs
   ·exact ihL _ (by omega) h
   ·exact ih _ (by omega) h
   ·exact ihL _ (by omega) h
   ·exact ihL _ (by omega) h
 exact fun {v} h => key _ v (Nat.lt_succ_self _) h
theorem QrG {l : List V} (h : Zd l = true) : Yd l = 0 := by
 have : Yd l ≤ 0 := JF.2 fun x hx => by rw [Uj (Jh.1 h x hx)]; omega
 omega
theorem Kc {l : List V} {j : Nat} {x : V} (h : l[j]? = some x) : x.maxRef ≤ Yd l := JF.1 (Nat.le_refl _) x (List.mem_of_getElem? h)
theorem Rel.ref {S : Ctx} {v : V} {u : Value} (h : Rel S v u) : v.maxRef ≤ S.H.length := by
 induction h with
 | ptr i ver off a hi h => exact hi
 | rs i ver sz off n a cap hi hcap h => exact hi
 | mapr i c hi h => exact hi
 | fn f cap us hl h2 ih =>
  simp only [V.maxRef]
  refine JF.2 fun x hx => ?_
  obtain ⟨j,hj⟩ := List.mem_iff_getElem?.1 hx
  have hlt := (List.getElem?_eq_some_iff.1 hj).1
  exact ih j x us[j] hj (by simp [hl,hlt])
 | agg cs us hl h2 ih =>
  simp only [V.maxRef]
  refine JF.2 fun x hx => ?_
  obtain ⟨j,hj⟩ := List.mem_iff_getElem?.1 hx
  have hlt := (List.getElem?_eq_some_iff.1 hj).1
  exact ih j x us[j] hj (by simp [hl,hlt])
 | tup cs us hl h2 ih =>
  simp only [V.maxRef]
  refine JF.2 fun x hx => ?_
  obtain ⟨j,hj⟩ := List.mem_iff_getElem?.1 hx
  have hlt := (List.getElem?_eq_some_iff.1 hj).1
  exact ih j x us[j] hj (by simp [hl,hlt])
 | iface t v u h ih => simpa [V.maxRef] using ih
 | _ => simp [V.maxRef]
theorem Yx.ref {S : Ctx} {cs : List V} {us : Array Value} (h : Yx S cs us) : Yd cs ≤ S.H.length := JF.2 fun x hx => by
 obtain ⟨j,hj⟩ := List.mem_iff_getElem?.1 hx
 obtain ⟨u,_,hu⟩ := h j x hj
 exact hu.ref
theorem Sim.bnd {S : Ctx} (hS : Sim T S) : Bnd S.H.length S.H := fun i b _ hb => by
 have := hS.blk i b hb
 cases b with
 | dead => simp [YX]
 | var cs => obtain ⟨_,_,_,_,_,_,h⟩ := this; exact h.ref
 | row v sz ag cs => obtain ⟨_,_,_,_,_,_,_,h⟩ := this; exact h.ref
 | map es =>
  obtain ⟨ms,_,_,_,h⟩ := this
  simp only [YX,Nat.max_le]
  refine ⟨JF.2 fun x hx => ?_,JF.2 fun x hx => ?_⟩
  ·obtain ⟨⟨k,y⟩,he,rfl⟩ := List.mem_map.1 hx
   obtain ⟨j,hj⟩ := List.mem_iff_getElem?.1 he
   obtain ⟨m,_,h1,_⟩ := h j k y hj
   exact h1.ref
  ·obtain ⟨⟨k,y⟩,he,rfl⟩ := List.mem_map.1 hx
   obtain ⟨j,hj⟩ := List.mem_iff_getElem?.1 he
   obtain ⟨m,_,_,h1⟩ := h j k y hj
   exact h1.ref
def Ctx.trunc (S : Ctx) (b : Nat) : Ctx := { S with H := Jm S.H b }
section
variable {S : Ctx} {b : Nat} (hb : b ≤ S.H.length)
include hb
theorem GN (i : Nat) : Q0 (S.trunc b).H i = if i < b then Q0 S.H i else none := Dq hb
theorem LH {i : Nat} (h : i < b) : Zj (S.trunc b).H i = Zj S.H i := by simp [Zj,GN hb,h]
theorem MB {i : Nat} (h : (S.trunc b).live i) : S.live i ∧ i < b := by
 have hl := KO h
 have : i < b := by simpa [Ctx.trunc,UI hb] using hl
 exact ⟨by simpa [Ctx.live,LH hb this] using h,this⟩
theorem QkK {c : Nat} (h : (S.trunc b).owned c) : S.owned c := by
 obtain ⟨i,h1,h2⟩ := h
 exact ⟨i,(MB hb h1).1,h2⟩
theorem Pj {c : Nat} (h : S.free c) : (S.trunc b).free c := ⟨fun hh => h.1 (QkK hb hh),h.2⟩
theorem Rel.trunc {v : V} {u : Value} (h : Rel S v u) (hm : v.maxRef ≤ b) : Rel (S.trunc b) v u := by
 induction h with
 | junk u => exact .junk u
 | bool b => exact .bool b
 | int k n => exact .int k n
 | str bs => exact .str bs
 | nilptr => exact .nilptr
 | ptr i ver off a hi h =>
  simp [V.maxRef] at hm
  exact .ptr i ver off a (by simp [Ctx.trunc,UI hb]; omega) fun v hv => h v (by rwa [LH hb (by omega)] at hv)
 | fptr cs c off us hf hc hcl h1 h2 ih =>
  exact .fptr cs c off us (Pj hb hf) hc hcl h1 fun j x hj => ih j x hj (by rw [Uj (Jh.1 hcl x (List.mem_of_getElem? hj))]; omega)
 | nils => exact .nils
 | emp a => exact .emp a
 | vs xs a n cap c off sz us hn hcap hcl ha hsz h1 h2 ih =>
  refine .vs xs a n cap c off sz us hn hcap hcl (fun hne => ⟨(ha hne).1,Pj hb (ha hne).2.1,(ha hne).2.2⟩) hsz h1 fun i x j y hi hj => ih i x j y hi hj ?_
  have := F4 (Jh.1 hcl x (List.mem_of_getElem? hi))
  rw [Uj (Jh.1 this y (List.mem_of_getElem? hj))]; omega
 | rs i ver sz off n a cap hi hcap h =>
  simp [V.maxRef] at hm
  refine .rs i ver sz off n a cap (by simp [Ctx.trunc,UI hb]; omega) hcap fun v hv => ?_
  obtain ⟨h1,h2⟩ := h v (by rwa [LH hb (by omega)] at hv)
  refine ⟨h1,fun e => ?_⟩
  obtain ⟨ag,cs,cells,el,fr,g1,g2,g3,g5⟩ := h2 e
  exact ⟨ag,cs,cells,el,fr,by rw [GN hb,if_pos (by omega)]; exact g1,g2,g3,g5⟩
 | fn f cap us hl h2 ih => exact .fn f cap us hl fun j x u h1 h3 => ih j x u h1 h3 (Nat.le_trans (Kc h1) hm)
 | nilfn => exact .nilfn
 | niface => exact .niface
 | iface t v u h ih => exact .iface t v u (ih hm)
 | agg cs us hl h2 ih => exact .agg cs us hl fun j x u h1 h3 => ih j x u h1 h3 (Nat.le_trans (Kc h1) hm)
 | tup cs us hl h2 ih => exact .tup cs us hl fun j x u h1 h3 => ih j x u h1 h3 (Nat.le_trans (Kc h1) hm)
 | nilmap => exact .nilmap
 | mapr i c hi h =>
  simp [V.maxRef] at hm
  exact .mapr i c (by simp [Ctx.trunc,UI hb]; omega) fun hv => h (by rwa [LH hb (by omega)] at hv)
theorem Yx.trunc {cs : List V} {us : Array Value} (h : Yx S cs us) (hm : Yd cs ≤ b) : Yx (S.trunc b) cs us := fun j x hj => by
 obtain ⟨u,h1,h2⟩ := h j x hj
 exact ⟨u,h1,h2.trunc hb (Nat.le_trans (Kc hj) hm)⟩
theorem Qnf (hS : Sim T S) (hB : Bnd b S.H) : Sim T (S.trunc b) where
 blk := fun i x hx => by
  rw [GN hb] at hx
  split at hx
  ·rename_i hi
   have h0 := hS.blk i x hx
   have hr := hB i x hi hx
   cases x with
   | dead => trivial
   | var cs => obtain ⟨cells,e,fr,h1,h2,h3,h4⟩ := h0; exact ⟨cells,e,fr,h1,h2,h3,h4.trunc hb hr⟩
   | row v sz ag cs => obtain ⟨cells,e,fr,h1,h2,h3,h4,h5⟩ := h0; exact ⟨cells,e,fr,h1,h2,h3,h4,h5.trunc hb hr⟩
   | map es =>
    obtain ⟨ms,clock,h1,h2,h3⟩ := h0
    simp only [YX,Nat.max_le] at hr
    refine ⟨ms,clock,h1,h2,fun j k y hj => ?_⟩
    obtain ⟨m,a1,a2,a3⟩ := h3 j k y hj
    have hj1 : (es.map (·.1))[j]? = some k := by simp [hj]
    have hj2 : (es.map (·.2))[j]? = some y := by simp [hj]
    exact ⟨m,a1,a2.trunc hb (Nat.le_trans (Kc hj1) hr.1),a3.trunc hb (Nat.le_trans (Kc hj2) hr.2)⟩
  ·cases hx
 inj := fun i j hi hj he => hS.inj i j (MB hb hi).1 (MB hb hj).1 he
 zfree := fun i hi => hS.zfree i (MB hb hi).1
 zlt := hS.zlt
 tab := fun c us h => ⟨Pj hb (hS.tab c us h).1,(hS.tab c us h).2⟩
end
theorem QbM {b : Nat} : ∀ {H : Qa},Ut b H = true → ∀ i x,Q0 H i = some x → YX x ≤ b
 | [],_,i,x,h => by simp [Q0] at h
 | y :: H,h,i,x,hx => by
  simp only [Ut,Bool.and_eq_true,decide_eq_true_eq] at h
  unfold Q0 at hx
  split at hx
  ·injection hx with hx; subst hx; exact h.1
  ·exact QbM h.2 i x hx
theorem QdE {b : Nat} {H : Qa} (hb : b ≤ H.length) (h : KJ b H = true) : Bnd b H := fun i x hi hx =>
 QbM h i x (by rw [Dq hb,if_pos hi]; exact hx)
theorem To.wild {S S' : Ctx} {H' : Qa} {w' : World} {b b' : Nat} (h : To T b S S' H' w') : To T b' S S' H' w' := ⟨h.H,h.w,h.Z,h.ext,h.sim,trivial⟩
theorem CG {S S' : Ctx} {H' : Qa} {w' : World} {base : Nat} (hS : Sim T S) (h : To T base S S' H' w') (hbase : base = S.H.length) (hk : KJ base H' = true) : To T base S (S'.trunc base) (Jm H' base) w' := by
 subst hbase
 have hb : S.H.length ≤ S'.H.length := h.ext.len
 have hB : Bnd S.H.length S'.H := by rw [h.H]; exact QdE (by rw [← h.H]; exact hb) hk
 refine ⟨by simp [Ctx.trunc,h.H],h.w,h.Z,⟨h.ext.size,fun c hc hf => ⟨(h.ext.keep c hc hf).1,Pj hb (h.ext.keep c hc hf).2⟩,h.ext.zed,h.ext.znew,by simp [Ctx.trunc,UI hb],fun i v' hi hv => ?_,h.ext.os,h.ext.tape,h.ext.output⟩,Qnf hb h.sim hB,trivial⟩
 ·rw [LH hb hi] at hv
  obtain ⟨v,a1,a2,a3⟩ := h.ext.ver i v' hi hv
  refine ⟨v,a1,a2,fun e => ⟨(a3 e).1,fun sz ag cs cells e1 fr g1 g2 => ?_⟩⟩
  obtain ⟨cs',cells',e',fr',q1,q2,q3⟩ := (a3 e).2 sz ag cs cells e1 fr g1 g2
  exact ⟨cs',cells',e',fr',by rw [GN hb,if_pos hi]; exact q1,q2,q3⟩
theorem Eh {f : V → Option V} : ∀ {l l' : List V},Y6 f l = some l' → l'.length = l.length ∧ ∀ (j : Nat) (y : V),l'[j]? = some y → ∃ x,l[j]? = some x ∧ f x = some y
 | [],l',h => by simp [Y6] at h; subst h; simp
 | x :: l,l',h => by
  simp only [Y6] at h
  cases hx : f x with
  | none => simp [hx] at h
  | some y =>
   cases hl : Y6 f l with
   | none => simp [hx,hl] at h
   | some ys =>
    simp [hx,hl] at h
    subst h
    obtain ⟨h1,h2⟩ := Eh hl
    refine ⟨by simp [h1],fun j z hj => ?_⟩
    cases j with
    | zero => simp at hj; subst hj; exact ⟨x,rfl,hx⟩
    | succ j => simpa using h2 j z (by simpa using hj)
theorem G1 (sz : Nat) (ag : Bool) : ∀ (n : Nat) (cs : List V),(J0 sz ag n cs).length = n
 | 0,_ => rfl
 | n + 1,cs => by simp [J0,G1 sz ag n]
theorem Qcd {sz : Nat} {ag : Bool} : ∀ {n : Nat} {cs : List V} {i : Nat},i < n → (J0 sz ag n cs)[i]? = some (if ag then .agg ((cs.drop (i * sz)).take sz) else (cs.drop (i * sz)).headD .junk)
 | 0,_,_,h => by omega
 | n + 1,cs,0,_ => by simp [J0]
 | n + 1,cs,i + 1,h => by
  simp only [J0,List.getElem?_cons_succ]
  rw [Qcd (by omega),List.drop_drop,show sz + i * sz = (i + 1) * sz by rw [Nat.add_mul]; omega]
theorem R0 {sz : Nat} {ag : Bool} {n : Nat} {cs : List V} (hsc : ZI cs = true) (hag : ag = true ∨ sz = 1) (hl : n * sz ≤ cs.length) {i : Nat} {x : V} (h : (J0 sz ag n cs)[i]? = some x) :
  x.cells.length = sz ∧ ∀ (j : Nat) (y : V),x.cells[j]? = some y → cs[i * sz + j]? = some y := by
 have hi : i < n := by have := (List.getElem?_eq_some_iff.1 h).1; rwa [G1] at this
 have hle : (i + 1) * sz ≤ n * sz := Nat.mul_le_mul_right _ hi
 rw [Nat.add_mul,Nat.one_mul] at hle
 rw [Qcd hi] at h
 injection h with h
 subst h
 cases ag with
 | true =>
  simp only [if_true,V.cells]
  refine ⟨by simp; omega,fun j y hj => ?_⟩
  rw [List.getElem?_take] at hj
  split at hj
  ·rw [List.getElem?_drop] at hj; exact hj
  ·simp at hj
 | false =>
  have hsz : sz = 1 := by simpa using hag
  subst hsz
  simp only [Bool.false_eq_true,if_false]
  have hlt : i * 1 < cs.length := by omega
  have hd : (cs.drop (i * 1)).headD .junk = cs[i * 1] := by
   rw [List.drop_eq_getElem_cons hlt]; rfl
  rw [hd]
  have hs : (cs[i * 1]).scal = true := BO.1 hsc _ (List.getElem_mem hlt)
  have hc : (cs[i * 1]).cells = [cs[i * 1]] := by
   generalize cs[i * 1] = z at hs ⊢
   cases z <;> first | rfl | simp [V.scal] at hs
  rw [hc]
  refine ⟨rfl,fun j y hj => ?_⟩
  cases j with
  | zero => simp at hj; subst hj; simp
  | succ j => simp at hj
theorem AO {sz : Nat} {ag : Bool} : ∀ {n : Nat} {cs : List V},Zd cs = true → n * sz ≤ cs.length → 0 < sz → Zd (J0 sz ag n cs) = true
 | 0,_,_,_,_ => rfl
 | n + 1,cs,h,hl,hz => by
  rw [Nat.add_mul,Nat.one_mul] at hl
  simp only [J0,Zd,Bool.and_eq_true]
  refine ⟨?_,AO (EL _ h) (by simp; omega) hz⟩
  split
  ·exact QfE _ h
  ·have h0 : 0 < cs.length := by omega
   have : cs.headD .junk = cs[0] := by cases cs <;> simp at h0 ⊢
   rw [this]
   exact Jh.1 h _ (List.getElem_mem h0)
theorem Ms {S : Ctx} {b : Nat} (hb : b ≤ S.H.length) (hS : Sim T S) : ∀ (n : Nat) {v v' : V} {u : Value},frz S.H b n v = some v' → Rel S v u → v'.maxRef ≤ b → Rel (S.trunc b) v' u
 | 0,v,v',u,h,_,_ => by simp [frz] at h
 | n + 1,v,v',u,h,hr,hm => by
  cases v with
  | nils =>
   simp [frz] at h; subst h
   cases hr
   exact .vs [] none 0 0 0 0 0 (fun _ => .nilFunc) rfl (Nat.le_refl _) rfl (fun h => absurd rfl h) (fun i x h => by simp at h) (fun i x j y h => by simp at h) (fun i x j y h => by simp at h)
  | rs i ver sz off len =>
   simp only [frz] at h
   split at h
   ·injection h with h; subst h
    exact hr.trunc hb hm
   ·rename_i hib
    split at h
    ·rename_i v1 sz1 ag cs hg
     split at h
     ·rename_i hc
      obtain ⟨rfl,rfl,hlen,hz⟩ := hc
      cases hmo : Y6 (frz S.H b n) ((cs.drop (off * sz)).take (len * sz)) with
      | none => simp [hmo] at h
      | some cs' =>
       simp only [hmo,Option.bind_some] at h
       split at h
       ·rename_i hk
        obtain ⟨hcl,hsc,hag⟩ := hk
        injection h with h
        subst h
        obtain ⟨m1,m2⟩ := Eh hmo
        rw [Nat.add_mul] at hlen
        have hlen' : cs'.length = len * sz := by rw [m1]; simp; omega
        cases hr with
        | rs _ _ _ _ _ a cap hi hcap hh =>
        have hcv : Zj S.H i = some ver := by simp [Zj,hg,ZQ]
        obtain ⟨_,h2⟩ := hh ver hcv
        obtain ⟨ag2,cs2,cells,el,fr,g1,g2,g3,g5⟩ := h2 rfl
        rw [hg] at g1
        injection g1 with g1
        injection g1 with _ _ g1a g1b
        subst g1a; subst g1b
        have hbk := hS.blk i _ hg
        obtain ⟨cells2,e2,fr2,k1,k2,k3,k4,k5⟩ := hbk
        rw [g2] at k1
        injection k1 with k1
        injection k1 with k1a k1b k1c
        subst k1a
        have hlive : S.live i := Pd hcv
        have hfree : (S.trunc b).free (S.ρ i) := by
         refine ⟨fun ⟨j,j1,j2⟩ => ?_,hS.zfree i hlive⟩
         obtain ⟨j3,j4⟩ := MB hb j1
         have := hS.inj j i j3 hlive j2
         omega
        refine .vs _ _ _ _ (S.ρ i) (off * sz) sz (fun k => cells.getD (off * sz + k) undef) (by rw [G1]) hcap (AO hcl (by omega) hz) (fun hne => ?_) (fun i' x hx => (R0 hsc hag (by omega) hx).1) (fun i' x j y hx hy => ?_) (fun i' x j y hx hy => ?_)
        ·have : 0 < len := by
          cases len with
          | zero => exact absurd rfl hne
          | succ n => omega
         exact ⟨by rw [g5 (by omega)],hfree,hS.lt hlive⟩
        ·have h3 := (R0 hsc hag (by omega) hx).2 j y hy
         obtain ⟨x0,hx0,hf⟩ := m2 _ y h3
         rw [List.getElem?_take] at hx0
         split at hx0
         ·rw [List.getElem?_drop] at hx0
          obtain ⟨u0,hu0,hr0⟩ := k5 _ x0 hx0
          have : (S.trunc b).w = S.w := rfl
          rw [this]
          simp only [World.cell?,g2]
          simp [hu0]
         ·simp at hx0
        ·have h3 := (R0 hsc hag (by omega) hx).2 j y hy
         obtain ⟨x0,hx0,hf⟩ := m2 _ y h3
         rw [List.getElem?_take] at hx0
         split at hx0
         ·rw [List.getElem?_drop] at hx0
          obtain ⟨u0,hu0,hr0⟩ := k5 _ x0 hx0
          have hcy : y.maxRef ≤ b := by rw [Uj (Jh.1 hcl y (List.mem_of_getElem? h3))]; omega
          have := Ms hb hS n hf hr0 hcy
          simpa [hu0] using this
         ·simp at hx0
       ·simp at h
     ·simp at h
    ·simp at h
  | agg cs =>
   simp only [frz] at h
   cases hmo : Y6 (frz S.H b n) cs with
   | none => simp [hmo] at h
   | some cs' =>
    simp [hmo] at h; subst h
    obtain ⟨m1,m2⟩ := Eh hmo
    cases hr with
    | agg _ us hl h2 =>
    refine .agg cs' us (by rw [hl,m1]) fun j y u hj hu => ?_
    obtain ⟨x,hx,hf⟩ := m2 j y hj
    exact Ms hb hS n hf (h2 j x u hx hu) (Nat.le_trans (Kc hj) hm)
  | tup cs =>
   simp only [frz] at h
   cases hmo : Y6 (frz S.H b n) cs with
   | none => simp [hmo] at h
   | some cs' =>
    simp [hmo] at h; subst h
    obtain ⟨m1,m2⟩ := Eh hmo
    cases hr with
    | tup _ us hl h2 =>
    refine .tup cs' us (by rw [hl,m1]) fun j y u hj hu => ?_
    obtain ⟨x,hx,hf⟩ := m2 j y hj
    exact Ms hb hS n hf (h2 j x u hx hu) (Nat.le_trans (Kc hj) hm)
  | iface t x =>
   simp only [frz] at h
   cases hx : frz S.H b n x with
   | none => simp [hx] at h
   | some y =>
    simp [hx] at h; subst h
    cases hr with
    | iface _ _ u hr => exact .iface t y u (Ms hb hS n hx hr hm)
  | _ =>
   simp only [frz] at h
   injection h with h
   subst h
   exact hr.trunc hb hm
theorem UA : ∀ {cs : List V} {j : Nat} {x : V},Zd cs = true → cs[j]? = some x → x.clean = true
 | [],j,x,_,h => by simp at h
 | c :: cs,0,x,hc,h => by
  simp only [Zd,Bool.and_eq_true] at hc
  simp at h; subst h; exact hc.1
 | c :: cs,j + 1,x,hc,h => by
  simp only [Zd,Bool.and_eq_true] at hc
  exact UA hc.2 (by simpa using h)
theorem Rel.alone {S S' : Ctx} (hx : ∀ c,S.free c → c < S.w.heap.size → S'.free c ∧ c < S'.w.heap.size ∧ S'.w.heap[c]? = S.w.heap[c]?) {v : V} {u : Value} (h : Rel S v u) : v.clean = true → Rel S' v u := by
 induction h with
 | junk u => intro hc; simp [V.clean] at hc
 | bool b => intro _; exact .bool b
 | int k n => intro _; exact .int k n
 | str bs => intro _; exact .str bs
 | nilptr => intro _; exact .nilptr
 | ptr i ver off a hi h => intro hc; simp [V.clean] at hc
 | fptr cs c off us hf hlt hcl h1 h2 ih =>
  intro _
  obtain ⟨k1,k2,k3⟩ := hx c hf hlt
  exact .fptr cs c off us k1 k2 hcl (fun j x hj => by rw [cell?_congr k3]; exact h1 j x hj) fun j x hj => ih j x hj (UA hcl hj)
 | nils => intro _; exact .nils
 | emp a => intro _; exact .emp a
 | vs xs a n cap c off sz us hn hcap hcl ha hsz h1 h2 ih =>
  intro _
  refine .vs xs a n cap c off sz us hn hcap hcl (fun hne => ?_) hsz (fun i x j y hi hj => ?_) fun i x j y hi hj => ih i x j y hi hj (UA (F4 (UA hcl hi)) hj)
  ·obtain ⟨a1,a2,a3⟩ := ha hne
   obtain ⟨k1,k2,k3⟩ := hx c a2 a3
   exact ⟨a1,k1,k2⟩
  ·have hne : xs ≠ [] := by rintro rfl; simp at hi
   obtain ⟨a1,a2,a3⟩ := ha hne
   rw [cell?_congr (hx c a2 a3).2.2]; exact h1 i x j y hi hj
 | rs i ver sz off n a cap hi hcap h => intro hc; simp [V.clean] at hc
 | fn f cap us hl h2 ih => intro hc; exact .fn f cap us hl fun j x u hj hu => ih j x u hj hu (UA (by simpa [V.clean] using hc) hj)
 | nilfn => intro _; exact .nilfn
 | niface => intro _; exact .niface
 | iface t v u h ih => intro hc; exact .iface t v u (ih (by simpa [V.clean] using hc))
 | agg cs us hl h2 ih => intro hc; exact .agg cs us hl fun j x u hj hu => ih j x u hj hu (UA (by simpa [V.clean] using hc) hj)
 | tup cs us hl h2 ih => intro hc; exact .tup cs us hl fun j x u hj hu => ih j x u hj hu (UA (by simpa [V.clean] using hc) hj)
 | nilmap => intro _; exact .nilmap
 | mapr i c hi h => intro hc; simp [V.clean] at hc
def Ctx.adopt (S : Ctx) (b i : Nat) (x : Blk) : Ctx := { H := x :: Jm S.H b,ρ := upd S.ρ b (S.ρ i),Z := S.Z,w := S.w }
theorem K9 {S : Ctx} {b i : Nat} (_hb : b ≤ S.H.length) {j : Nat} (x : Blk) (h : j < b) : (S.adopt b i x).ρ j = S.ρ j := by simp [Ctx.adopt,upd,Nat.ne_of_lt h]
theorem ND {S : Ctx} {b i : Nat} (_hb : b ≤ S.H.length) (x : Blk) : (S.adopt b i x).ρ b = S.ρ i := by simp [Ctx.adopt,upd]
section
variable {S : Ctx} {b i : Nat} (hb : b ≤ S.H.length)
include hb
theorem Mh (x : Blk) : (S.adopt b i x).H.length = b + 1 := by simp [Ctx.adopt,UI hb]
theorem Gn {j : Nat} (x : Blk) (h : j < b) : Q0 (S.adopt b i x).H j = Q0 S.H j := by
 simp only [Ctx.adopt]
 rw [Ng x (by rw [UI hb]; exact h),Dq hb,if_pos h]
theorem Cs (x : Blk) : Q0 (S.adopt b i x).H b = some x := by
 have := UI hb
 simp only [Ctx.adopt]
 unfold Q0
 rw [if_pos this.symm]
theorem NO {j : Nat} (x : Blk) (h : j < b) : Zj (S.adopt b i x).H j = Zj S.H j := by simp [Zj,Gn hb x h]
end
theorem Gv {S : Ctx} {b i v sz : Nat} {ag : Bool} {cs : List V} (hb : b ≤ S.H.length) (_hi : b ≤ i) (_hg : Q0 S.H i = some (.row v sz ag cs)) {j : Nat} (h : (S.adopt b i (.row v sz ag cs)).live j) : (j < b ∧ S.live j) ∨ j = b := by
 have hl := KO h
 rw [Mh hb] at hl
 by_cases hj : j < b
 ·exact .inl ⟨hj,by simpa [Ctx.live,NO hb _ hj] using h⟩
 ·exact .inr (by omega)
theorem Gd {S : Ctx} {b i v sz : Nat} {ag : Bool} {cs : List V} (_hb : b ≤ S.H.length) (_hi : b ≤ i) (hg : Q0 S.H i = some (.row v sz ag cs)) : S.live i := KB hg rfl
section
variable {S : Ctx} {b i v sz : Nat} {ag : Bool} {cs : List V} (hb : b ≤ S.H.length) (hi : b ≤ i) (hg : Q0 S.H i = some (.row v sz ag cs))
include hb hi hg
theorem Qsu {c : Nat} (h : (S.adopt b i (.row v sz ag cs)).owned c) : S.owned c := by
 obtain ⟨j,h1,h2⟩ := h
 rcases Gv hb hi hg h1 with ⟨hj,h3⟩ | rfl
 ·exact ⟨j,h3,by rw [← h2,K9 hb _ hj]⟩
 ·exact ⟨i,Gd hb hi hg,by rw [← h2,ND hb]⟩
theorem Ed {c : Nat} (h : S.free c) : (S.adopt b i (.row v sz ag cs)).free c := ⟨fun hh => h.1 (Qsu hb hi hg hh),h.2⟩
theorem Rel.adopt {x : V} {u : Value} (h : Rel S x u) (hm : x.maxRef ≤ b) : Rel (S.adopt b i (.row v sz ag cs)) x u := by
 have hlen : (S.adopt b i (.row v sz ag cs)).H.length = b + 1 := Mh hb _
 induction h with
 | junk u => exact .junk u
 | bool b => exact .bool b
 | int k n => exact .int k n
 | str bs => exact .str bs
 | nilptr => exact .nilptr
 | ptr j ver off a hi' h =>
  simp [V.maxRef] at hm
  exact .ptr j ver off a (by omega) fun v hv => by
   rw [NO hb _ (by omega)] at hv
   rw [K9 hb _ (by omega)]
   exact h v hv
 | fptr cs c off us hf hc hcl h1 h2 ih =>
  exact .fptr cs c off us (Ed hb hi hg hf) hc hcl h1 fun j x hj => ih j x hj (by rw [Uj (Jh.1 hcl x (List.mem_of_getElem? hj))]; omega)
 | nils => exact .nils
 | emp a => exact .emp a
 | vs xs a n cap c off sz us hn hcap hcl ha hsz h1 h2 ih =>
  refine .vs xs a n cap c off sz us hn hcap hcl (fun hne => ⟨(ha hne).1,Ed hb hi hg (ha hne).2.1,(ha hne).2.2⟩) hsz h1 fun i' x j y hi' hj => ih i' x j y hi' hj ?_
  have := F4 (Jh.1 hcl x (List.mem_of_getElem? hi'))
  rw [Uj (Jh.1 this y (List.mem_of_getElem? hj))]; omega
 | rs j ver sz' off n a cap hi' hcap h =>
  simp [V.maxRef] at hm
  refine .rs j ver sz' off n a cap (by omega) hcap fun v' hv => ?_
  obtain ⟨h1,h2⟩ := h v' (by rwa [NO hb _ (by omega)] at hv)
  refine ⟨h1,fun e => ?_⟩
  obtain ⟨ag,cs,cells,el,fr,g1,g2,g3,g5⟩ := h2 e
  rw [K9 hb _ (by omega)]
  exact ⟨ag,cs,cells,el,fr,by rw [Gn hb _ (by omega)]; exact g1,g2,g3,g5⟩
 | fn f cap us hl h2 ih => exact .fn f cap us hl fun j x u h1 h3 => ih j x u h1 h3 (Nat.le_trans (Kc h1) hm)
 | nilfn => exact .nilfn
 | niface => exact .niface
 | iface t v u h ih => exact .iface t v u (ih hm)
 | agg cs us hl h2 ih => exact .agg cs us hl fun j x u h1 h3 => ih j x u h1 h3 (Nat.le_trans (Kc h1) hm)
 | tup cs us hl h2 ih => exact .tup cs us hl fun j x u h1 h3 => ih j x u h1 h3 (Nat.le_trans (Kc h1) hm)
 | nilmap => exact .nilmap
 | mapr j c hi' h =>
  simp [V.maxRef] at hm
  refine .mapr j c (by omega) fun hv => ?_
  rw [K9 hb _ (by omega)]
  exact h (by rwa [NO hb _ (by omega)] at hv)
theorem Yx.adopt {xs : List V} {us : Array Value} (h : Yx S xs us) (hm : Yd xs ≤ b) : Yx (S.adopt b i (.row v sz ag cs)) xs us := fun j x hj => by
 obtain ⟨u,h1,h2⟩ := h j x hj
 exact ⟨u,h1,h2.adopt hb hi hg (Nat.le_trans (Kc hj) hm)⟩
theorem QkN (hS : Sim T S) (hB : Bnd b S.H) (hc : Zd cs = true) : Sim T (S.adopt b i (.row v sz ag cs)) where
 blk := fun j x hx => by
  by_cases hj : j < b
  ·rw [Gn hb _ hj] at hx
   rw [K9 hb _ hj]
   have h0 := hS.blk j x hx
   have hr := hB j x hj hx
   cases x with
   | dead => trivial
   | var xs => obtain ⟨cells,e,fr,h1,h2,h3,h4⟩ := h0; exact ⟨cells,e,fr,h1,h2,h3,h4.adopt hb hi hg hr⟩
   | row _ _ _ xs => obtain ⟨cells,e,fr,h1,h2,h3,h4,h5⟩ := h0; exact ⟨cells,e,fr,h1,h2,h3,h4,h5.adopt hb hi hg hr⟩
   | map es =>
    obtain ⟨ms,clock,h1,h2,h3⟩ := h0
    simp only [YX,Nat.max_le] at hr
    refine ⟨ms,clock,h1,h2,fun j k y hj => ?_⟩
    obtain ⟨m,a1,a2,a3⟩ := h3 j k y hj
    have hj1 : (es.map (·.1))[j]? = some k := by simp [hj]
    have hj2 : (es.map (·.2))[j]? = some y := by simp [hj]
    exact ⟨m,a1,a2.adopt hb hi hg (Nat.le_trans (Kc hj1) hr.1),a3.adopt hb hi hg (Nat.le_trans (Kc hj2) hr.2)⟩
  ·have hl := VU hx
   rw [Mh hb] at hl
   have e : j = b := by omega
   subst e
   rw [Cs hb] at hx
   injection hx with hx
   subst hx
   rw [ND hb]
   obtain ⟨cells,e,fr,h1,h2,h3,h4,h5⟩ := hS.blk i _ hg
   exact ⟨cells,e,fr,h1,h2,h3,h4,h5.adopt hb hi hg (by rw [QrG hc]; exact Nat.zero_le _)⟩
 inj := fun j k hj hk he => by
  rcases Gv hb hi hg hj with ⟨j1,j2⟩ | rfl <;> rcases Gv hb hi hg hk with ⟨k1,k2⟩ | rfl
  ·rw [K9 hb _ j1,K9 hb _ k1] at he; exact hS.inj j k j2 k2 he
  ·rw [K9 hb _ j1,ND hb] at he
   have := hS.inj j i j2 (Gd hb hi hg) he
   omega
  ·rw [K9 hb _ k1,ND hb] at he
   have := hS.inj i k (Gd hb hi hg) k2 he
   omega
  ·rfl
 zfree := fun j hj => by
  rcases Gv hb hi hg hj with ⟨j1,j2⟩ | rfl
  ·rw [K9 hb _ j1]; exact hS.zfree j j2
  ·rw [ND hb]; exact hS.zfree i (Gd hb hi hg)
 zlt := hS.zlt
 tab := fun c us h => ⟨Ed hb hi hg (hS.tab c us h).1,(hS.tab c us h).2⟩
end
theorem Qas {S S' : Ctx} {H' H2 : Qa} {w' : World} {x x' : V} {u : Value} (hS : Sim T S) (h : To T S.H.length S S' H' w') (hr : Rel S' x u) (ha : J6 S.H.length x H' = some (x',H2)) :
  ∃ S'',To T S.H.length S S'' H2 w' ∧ Rel S'' x' u ∧ ∀ y z,y.clean = true → Rel S' y z → Rel S'' y z := by
 have hb : S.H.length ≤ S'.H.length := h.ext.len
 unfold J6 at ha
 split at ha
 ·rename_i i ver sz off len
  split at ha
  ·rename_i v' sz' ag cs hg
   split at ha
   ·rename_i hc
    obtain ⟨hi,rfl,hcl,hk⟩ := hc
    injection ha with ha
    injection ha with e1 e2
    subst e1; subst e2
    rw [← h.H] at hg hk ⊢
    have hB := QdE hb hk
    refine ⟨S'.adopt S.H.length i (.row ver sz' ag cs),⟨rfl,h.w,h.Z,⟨h.ext.size,fun c hc hf => ⟨(h.ext.keep c hc hf).1,Ed hb hi hg (h.ext.keep c hc hf).2⟩,h.ext.zed,h.ext.znew,by rw [Mh hb]; omega,fun j v' hj hv => ?_,h.ext.os,h.ext.tape,h.ext.output⟩,QkN hb hi hg h.sim hB hcl,trivial⟩,?_,fun y z hy hyz => hyz.adopt hb hi hg (by rw [Uj hy]; exact Nat.zero_le _)⟩
    ·rw [NO hb _ hj] at hv
     obtain ⟨v,a1,a2,a3⟩ := h.ext.ver j v' hj hv
     refine ⟨v,a1,a2,fun e => ?_⟩
     rw [K9 hb _ hj]
     refine ⟨(a3 e).1,fun sz ag cs cells e1 fr g1 g2 => ?_⟩
     obtain ⟨cs',cells',e',fr',q1,q2,q3⟩ := (a3 e).2 sz ag cs cells e1 fr g1 g2
     exact ⟨cs',cells',e',fr',by rw [Gn hb _ hj]; exact q1,q2,q3⟩
    ·cases hr with
     | rs _ _ _ _ _ a cap hi' hcap hh =>
     have hcv : Zj S'.H i = some ver := by simp [Zj,hg,ZQ]
     obtain ⟨_,h2⟩ := hh ver hcv
     obtain ⟨ag2,cs2,cells,el,fr,g1,g2,g3,g5⟩ := h2 rfl
     rw [hg] at g1
     injection g1 with g1
     injection g1 with _ g0 g1a g1b
     subst g0; subst g1a; subst g1b
     refine .rs _ _ _ _ _ _ _ (by rw [Mh hb]; omega) hcap fun v2 hv2 => ?_
     have e : v2 = ver := by
      have : Zj (S'.adopt S.H.length i (.row ver sz' ag cs)).H S.H.length = some ver := by simp [Zj,Cs hb,ZQ]
      rw [this] at hv2; injection hv2 with hv2; exact hv2.symm
     subst e
     refine ⟨Nat.le_refl _,fun _ => ?_⟩
     rw [ND hb]
     exact ⟨ag,cs,cells,el,fr,Cs hb _,g2,g3,g5⟩
   ·cases ha
  ·cases ha
 ·cases ha
theorem QoJ {S S' : Ctx} {H' : Qa} {w' : World} {v : V} {u : Value} (hS : Sim T S) (h : To T S.H.length S S' H' w') (hr : Rel S' v u) :
  ∃ S'',To T S.H.length S S'' (Wx S.H.length v H').2 w' ∧ Rel S'' (Wx S.H.length v H').1 u := by
 unfold Wx
 split
 ·rename_i x y
  cases ha : J6 S.H.length x H' with
  | none => exact ⟨S',h,hr⟩
  | some p =>
   obtain ⟨x',H2⟩ := p
   simp only
   split
   ·rename_i hy
    cases hr with
    | tup _ us hl h2 =>
    have h0 : ∃ u0 u1,us = #[u0,u1] := by
     have hl' : us.size = 2 := hl
     refine ⟨us[0],us[1],?_⟩
     apply Array.ext
     ·simp [hl']
     ·intro k h1 h2
      match k,h1,h2 with
      | 0,_,_ => rfl
      | 1,_,_ => rfl
    obtain ⟨u0,u1,rfl⟩ := h0
    obtain ⟨S'',k1,k2,k3⟩ := Qas hS h (h2 0 x u0 rfl rfl) ha
    refine ⟨S'',k1,.tup _ _ rfl fun j z u hj hu => ?_⟩
    match j,hj,hu with
    | 0,hj,hu => simp at hj hu; subst hj; subst hu; exact k2
    | 1,hj,hu => simp at hj hu; subst hj; subst hu; exact k3 y u1 hy (h2 1 y u1 rfl rfl)
    | j + 2,hj,hu => simp at hj
   ·exact ⟨S',h,hr⟩
 ·cases ha : J6 S.H.length v H' with
  | none => exact ⟨S',h,hr⟩
  | some p =>
   obtain ⟨S'',k1,k2,_⟩ := Qas hS h hr ha
   exact ⟨S'',k1,k2⟩
theorem QfR {keep : Bool} {S S' : Ctx} {H' : Qa} {w' : World} {v : V} {u : Value} (hS : Sim T S) (h : To T S.H.length S S' H' w') (hr : Rel S' v u) :
  ∃ S'',To T S.H.length S S'' (Kd keep S.H.length v H').2 w' ∧ Rel S'' (Kd keep S.H.length v H').1 u := by
 have hb : S.H.length ≤ S'.H.length := h.ext.len
 unfold Kd
 split
 ·rename_i v' hf
  cases keep with
  | true => simp at hf
  | false =>
   simp only [Bool.false_eq_true,if_false] at hf
   split
   ·rename_i hm
    exact ⟨S'.trunc S.H.length,CG hS h rfl hm.2,Ms hb h.sim depth (by rw [h.H]; exact hf) hr hm.1⟩
   ·exact ⟨S',h,hr⟩
 ·split
  ·rename_i hm
   exact ⟨S'.trunc S.H.length,CG hS h rfl hm.2,hr.trunc hb hm.1⟩
  ·split
   ·exact QoJ hS h hr
   ·exact ⟨S',h,hr⟩
end Go.Ev
end
section
namespace Go.Ev
variable {T : ZT}
variable {P : Program} {base : Nat} {own : Bool} {ks : Ks} {call : Qh} {loop : JL} {dfr : Z3}
def Ns (tmps : Array Value) : ResultVar → Sem Value
 | .tmp t => pure (tmps.getD t undef)
 | .cell a t => do loadVar t (← asAddr (tmps.getD a undef))
theorem Qky {S : Ctx} {t : List V} {tmps : Array Value} {d : List (FuncId × List V)} (hS : Sim T S) (ht : Zv S t tmps) {r : ResultVar} {v : V} (h : V0 P { t,H := S.H,d } r = some v) :
  ∃ u,Rel S v u ∧ (Ns tmps r).run P S.w = .ok u S.w := by
 cases r with
 | tmp i =>
  simp [V0] at h
  subst h
  exact ⟨tmps.getD i undef,by simpa using ht.2 i,by simp [Ns]⟩
 | cell a ty =>
  simp only [V0] at h
  cases ha : Z9 P ty with
  | none => simp [ha] at h
  | some ag =>
   cases hn : Q5 P ty with
   | none => simp [ha,hn] at h
   | some n =>
    simp only [ha,hn,Option.bind_some,Kj] at h
    cases hc : VM S.H (t.getD a .junk) with
    | none => rw [hc] at h; simp at h
    | some cs =>
     simp only [hc,Option.bind_some] at h
     obtain ⟨c,off,e,hcells⟩ := QcU hS (ht.2 a) hc
     obtain ⟨u,hu,hr⟩ := Qbp ha hn hcells h
     exact ⟨u,hu,by simp only [Ns]; rw [e]; simp [asAddr,hr]⟩
theorem Qfr {S : Ctx} {t : List V} {tmps : Array Value} {d : List (FuncId × List V)} (hS : Sim T S) (ht : Zv S t tmps) : ∀ {rs : List ResultVar} {vs : List V},KL P { t,H := S.H,d } rs = some vs →
  ∃ us : List Value,us.length = vs.length ∧ (∀ (j : Nat) (x : V) (u : Value),vs[j]? = some x → us[j]? = some u → Rel S x u) ∧ (rs.mapM (Ns tmps)).run P S.w = .ok us S.w
 | [],vs,h => by
  simp [KL] at h; subst h
  exact ⟨[],rfl,fun j x u h => by simp at h,by simp⟩
 | r :: rs,vs,h => by
  simp only [KL] at h
  cases h1 : V0 P { t,H := S.H,d } r with
  | none => simp [h1] at h
  | some v =>
   cases h2 : KL P { t,H := S.H,d } rs with
   | none => simp [h1,h2] at h
   | some vs' =>
    simp [h1,h2] at h
    subst h
    obtain ⟨u,a1,a2⟩ := Qky hS ht h1
    obtain ⟨us,b1,b2,b3⟩ := Qfr hS ht h2
    refine ⟨u :: us,by simp [b1],fun j x y hx hy => ?_,?_⟩
    ·cases j with
     | zero => simp at hx hy; subst hx; subst hy; exact a1
     | succ j => exact b2 j x y (by simpa using hx) (by simpa using hy)
    ·rw [List.mapM_cons]
     simp only [Sem.run_bind,a2,Result.andThen_ok,b3,Sem.run_pure]
theorem Qcp {S : Ctx} {t : List V} {tmps : Array Value} {d : List (FuncId × List V)} (hS : Sim T S) (ht : Zv S t tmps) {fn : Func} {v : V} (h : JC P { t,H := S.H,d } fn.results.toList = some v) :
  ∃ u,Rel S v u ∧ (results fn tmps).run P S.w = .ok u S.w := by
 simp only [JC] at h
 cases h1 : KL P { t,H := S.H,d } fn.results.toList with
 | none => simp [h1] at h
 | some vs =>
  simp only [h1,Option.map_some,Option.some.injEq] at h
  obtain ⟨us,a1,a2,a3⟩ := Qfr hS ht h1
  have hrun : (fn.results.mapM (Ns tmps)).run P S.w = .ok us.toArray S.w := by
   rw [Array.mapM_eq_mapM_toList,Sem.run_map,a3]
   rfl
  refine ⟨if h : us.toArray.size = 1 then us.toArray[0] else .tuple us.toArray,?_,?_⟩
  ·split at h
   ·rename_i x
    subst h
    have h1 : us.length = 1 := by simpa using a1
    obtain ⟨y,rfl⟩ := List.length_eq_one_iff.1 h1
    simpa using a2 0 x y rfl rfl
   ·rename_i hne
    subst h
    have h1 : us.length ≠ 1 := by
     rw [a1]
     intro h
     obtain ⟨y,rfl⟩ := List.length_eq_one_iff.1 h
     exact hne y rfl
    have : ¬ us.toArray.size = 1 := by simpa using h1
    rw [dif_neg this]
    exact .tup vs us.toArray (by simp [a1]) fun j x u hx hu => a2 j x u hx (by simpa using hu)
  ·show (do let vs ← fn.results.mapM (Ns tmps); pure (if h : vs.size = 1 then vs[0] else .tuple vs) : Sem Value).run P S.w = _
   simp only [Sem.run_bind,hrun,Result.andThen_ok,Sem.run_pure]
end Go.Ev
end
section
namespace Go.Ev
variable {T : ZT}
variable {P : Program} {base : Nat} {own : Bool} {ks : Ks} {call : Qh} {loop : JL} {dfr : Z3} {h : Hint}
def UO (P : Program) : Prop := ∀ (f : FuncId) (fn : Func),P.funcs[f]? = some fn → fn.body.isSome = true → (fn.name == "runtime.NumGoroutine") = false
theorem TD {f : FuncId} {fn : Func} {c : Code} (h0 : (fn.name == "runtime.NumGoroutine") = false) (hf : P.funcs[f]? = some fn) (hb : fn.body = some c) (us : Array Value) (w : World) : (callFunc f us).run P w = .ok (.enter f us) w := by
  have h1 : ¬ fn.name = "runtime.NumGoroutine" := by simpa using h0
  simp [callFunc,go_sem,hf,hb,h1]
def KT (S : Ctx) : Option V → FrameMode → Prop
  | none,u => u = .returning
  | some v,u => ∃ x,u = .panicking (entry x) ∧ Rel S v x
theorem KT.mono {S S' : Ctx} (hx : Ext S S') {m : Option V} {u : FrameMode} (h : KT S m u) : KT S' m u := by
  cases m with
  | none => exact h
  | some v => obtain ⟨x,h1,h2⟩ := h; exact ⟨x,h1,h2.mono hx⟩
theorem KT.settle {S : Ctx} {m : Option V} {u : FrameMode} (h : KT S m u) : Go.settle u = u := by
  cases m with
  | none => rw [h]; rfl
  | some v => obtain ⟨x,rfl,_⟩ := h; rfl
theorem KT.run {S : Ctx} {m : Option V} {u : FrameMode} (h : KT S m u) : u ≠ .run := by
  cases m with
  | none => rw [h]; simp
  | some v => obtain ⟨x,rfl,_⟩ := h; simp
def KU (T : ZT) (P : Program) (dfr : Z3) : Prop := ∀ f args m H b H',dfr f args m H = some (b,H') → ∀ (S : Ctx) (uargs : Array Value) (u : FrameMode),S.H = H → Sim T S → RelA S args uargs → KT S m u →
  (callFunc f uargs).run P S.w = .ok (.enter f uargs) S.w ∧ CallsD P f uargs u S.w fun e u' w' => ∃ x S',e = .returned x ∧ To T H.length S S' H' w' ∧ (if b then Go.settle u' = .returning else u' = u)
theorem QaF (hd : KU T P dfr) {fn : Func} {t : List V} {tmps : Array Value} {S0 : Ctx} {R : Ending → World → Prop} {r : Out} {Hr : Qa} (hR : ∀ S' e w',To T base S0 S' Hr w' → MK S' r e → R e w') (hb : base ≤ S0.H.length) :
    ∀ (ds : List (FuncId × List V)) (es : List Deferred) {m : Option V} {H : Qa} {S : Ctx} {u : FrameMode} {w : World},KY dfr (fun H' => JC P { t,H := H',d := [] } fn.results.toList) ds m H = some (r,Hr) →
      To T base S0 S H w → RelD S ds es → KT S m u → Zv S t tmps → Leaves P fn tmps R es u w
  | [],es,m,H,S,u,w,he,ht,hds,hm,hT => by
    cases hds
    have hw := ht.w
    subst hw
    cases m with
    | none =>
      have hu : u = .returning := hm
      subst hu
      simp only [KY] at he
      cases hv : JC P { t,H := H,d := [] } fn.results.toList with
      | none => simp [hv] at he
      | some v =>
        simp [hv] at he
        obtain ⟨rfl,rfl⟩ := he
        rw [← ht.H] at hv
        obtain ⟨x,h1,h2⟩ := Qcp ht.sim hT hv
        exact ⟨x,h2,hR S _ _ ht h1⟩
    | some v =>
      obtain ⟨x,rfl,hx⟩ := hm
      simp [KY] at he
      obtain ⟨rfl,rfl⟩ := he
      exact hR S _ _ ht ⟨x,rfl,hx⟩
  | d :: ds,es,m,H,S,u,w,he,ht,hds,hm,hT => by
    have hw := ht.w
    subst hw
    simp only [KY] at he
    cases hdf : dfr d.1 d.2 m H with
    | none => simp [hdf] at he
    | some p =>
      obtain ⟨b,H1⟩ := p
      simp only [hdf,Option.bind_some] at he
      cases hds with
      | cons f vs cap args _ es' hA hrest =>
      obtain ⟨hrun,hcd⟩ := hd _ _ _ _ _ _ hdf S _ u ht.H ht.sim hA hm
      refine leaves_cons hm.run (f := f) (args := args ++ cap) (by simpa [invoke] using hrun) (hcd.mono fun e u' w' hq => ?_)
      obtain ⟨x,S',rfl,hto,hbu⟩ := hq
      have hto' : To T base S S' H1 w' := ⟨hto.H,hto.w,hto.Z,hto.ext,hto.sim,hto.bd.mono (Nat.le_trans hb (by rw [← ht.H]; exact ht.ext.len))⟩
      have hto2 := ht.trans hto'
      refine QaF hd hR hb ds es' he hto2 (hrest.mono hto.ext) ?_ (hT.mono hto.ext)
      cases b with
      | true =>
        simp only [if_true] at hbu ⊢
        exact hbu
      | false =>
        simp only [Bool.false_eq_true,if_false] at hbu ⊢
        subst hbu
        rw [hm.settle]
        exact hm.mono hto.ext
theorem Qht {S : Ctx} {args : List V} {uargs : Array Value} (h : RelA S args uargs) {n : Nat} (hn : args.length ≤ n) : Zv S (args ++ List.replicate (n - args.length) .junk) (uargs ++ Array.replicate (n - uargs.size) undef) := by
  refine ⟨by simp [h.size],fun i => ?_⟩
  rw [List.getD_eq_getElem?_getD,List.getElem?_append]
  split
  · rename_i hi
    have hi' : i < uargs.size := by rw [h.size]; exact hi
    have := h.get i args[i] uargs[i] (by simp [hi]) (by simp [hi'])
    simpa [Array.getElem?_append,hi,hi'] using this
  · rename_i hi
    rw [List.getElem?_replicate]
    split <;> exact .junk _
def Mod (T : ZT) (P : Program) (f : FuncId) (m : List V → Qa → Option (Out × Qa)) : Prop := ∀ args H r H',m args H = some (r,H') → ∀ (S : Ctx) (uargs : Array Value),S.H = H → Sim T S → RelA S args uargs →
  (callFunc f uargs).run P S.w = .ok (.enter f uargs) S.w ∧ Calls P f uargs S.w fun e w' => ∃ S',To T H.length S S' H' w' ∧ MK S' r e
theorem Ak (hcall : Yb T P call) (hloop : KF T P loop) (hdfr : KU T P dfr) (hmix : P.follows .mixedOrders = true) {f : FuncId} (hi : ∀ g,h.intr f = some g → Mod T P f g) (hn : ∀ fn : Func,P.funcs[f]? = some fn → fn.body.isSome = true → (fn.name == "runtime.NumGoroutine") = false) :
    Mod T P f (Nu P h call loop dfr f) := by
  intro args H r H' hc S uargs hH hS hA
  unfold Nu at hc
  cases hin : h.intr f with
  | some g =>
    simp only [hin] at hc
    exact hi g hin args H r H' hc S uargs hH hS hA
  | none =>
    simp only [hin] at hc
    cases hf : P.funcs[f]? with
    | none => simp [hf] at hc
    | some fn =>
      simp only [hf] at hc
      cases hb : fn.body with
      | none => simp [hb] at hc
      | some c =>
        simp only [hb] at hc
        split at hc
        · rename_i hle
          subst hH
          cases he : evC P 0 (h.own f) (h.ks f) call loop c { t := args ++ List.replicate (fn.ntmps - args.length) .junk,H := S.H,d := [] } with
          | none => simp [he] at hc
          | some q =>
            obtain ⟨e,st⟩ := q
            simp only [he,Option.bind_some] at hc
            refine ⟨TD (hn fn hf (by simp [hb])) hf hb _ _,calls_of_wp_defers hf hb ?_⟩
            have hat : At T 0 S S { t := args ++ List.replicate (fn.ntmps - args.length) .junk,H := S.H,d := [] } { tmps := uargs ++ Array.replicate (fn.ntmps - uargs.size) undef,defers := [] } S.w :=
              ⟨⟨rfl,rfl,rfl,Ext.refl S,hS,Bd.refl _ _⟩,Qht hA hle,.nil,Nat.zero_le _⟩
            refine wp_mono (VB hcall hloop hmix c he hat) fun e' a' w' hp => ?_
            obtain ⟨S1,t1,t2,t3,t4⟩ := hp
            have fin : ∀ {m : Option V} {u : FrameMode},KT S1 m u →
                ((KY dfr (fun H' => JC P { t := st.t,H := H',d := [] } fn.results.toList) st.d m st.H).bind fun o => match o.1 with
                  | .ret v => let p := Kd (h.keep f) S.H.length v o.2; some (Out.ret p.1,p.2)
                  | .pan v => let p := Kd (h.keep f) S.H.length v o.2; some (Out.pan p.1,p.2)) = some (r,H') →
                Leaves P fn a'.tmps (fun e w' => ∃ S',To T S.H.length S S' H' w' ∧ MK S' r e) a'.defers u w' := by
              intro m u hm hq
              cases hl : KY dfr (fun H' => JC P { t := st.t,H := H',d := [] } fn.results.toList) st.d m st.H with
              | none => simp [hl] at hq
              | some o =>
                obtain ⟨o,H1⟩ := o
                simp only [hl,Option.bind_some] at hq
                refine QaF hdfr (fun S' e w' ht ho => ?_) (Nat.zero_le _) st.d a'.defers hl t1 t4 hm t3
                cases o with
                | ret v =>
                  simp at hq
                  obtain ⟨rfl,rfl⟩ := hq
                  cases e with
                  | returned u =>
                    obtain ⟨S'',k1,k2⟩ := QfR (keep := h.keep f) hS ht.wild (show Rel S' v u from ho)
                    exact ⟨S'',k1,k2⟩
                  | _ => exact ho.elim
                | pan v =>
                  simp at hq
                  obtain ⟨rfl,rfl⟩ := hq
                  cases e with
                  | panicked ch =>
                    obtain ⟨x,rfl,hx⟩ := ho
                    obtain ⟨S'',k1,k2⟩ := QfR (keep := h.keep f) hS ht.wild hx
                    exact ⟨S'',k1,x,rfl,k2⟩
                  | _ => exact ho.elim
            cases e with
            | normal =>
              cases e' <;> first
                | exact t2.elim
                | exact fin (m := none) (u := .returning) rfl hc
            | ret =>
              cases e' <;> first
                | exact t2.elim
                | exact fin (m := none) (u := .returning) rfl hc
            | exit i => simp at hc
            | pan v =>
              cases e' <;> first
                | exact t2.elim
                | skip
              obtain ⟨x,rfl,hx⟩ := t2
              exact fin (m := some v) (u := .panicking (entry x)) ⟨x,rfl,hx⟩ hc
        · simp at hc
def Qnx (T : ZT) (P : Program) (f : FuncId) (g : List V → Option V → Qa → Option (Bool × Qa)) : Prop := ∀ args m H b H',g args m H = some (b,H') → ∀ (S : Ctx) (uargs : Array Value) (u : FrameMode),S.H = H → Sim T S → RelA S args uargs → KT S m u →
  (callFunc f uargs).run P S.w = .ok (.enter f uargs) S.w ∧ CallsD P f uargs u S.w fun e u' w' => ∃ x S',e = .returned x ∧ To T H.length S S' H' w' ∧ (if b then Go.settle u' = .returning else u' = u)
def WN (S : Ctx) (m : Option V) (r : Bool) (u0 u : FrameMode) : Prop :=
  if r then m = none ∧ ∃ x,u = .panicking [{ v := x,recovered := true }] else u = u0 ∧ KT S m u
theorem WN.mono {S S' : Ctx} (hx : Ext S S') {m : Option V} {r : Bool} {u0 u : FrameMode} (h : WN S m r u0 u) : WN S' m r u0 u := by
  cases r with
  | true => exact h
  | false => exact ⟨h.1,h.2.mono hx⟩
def Lt (T : ZT) (base : Nat) (S0 : Ctx) (c0 : Frame) (cs : List Frame) (u0 : FrameMode) (e : Ex) (st : St) (m : Option V) (r : Bool) : Exit → Act → List Frame → World → Prop := fun e' a' cs' w' =>
  ∃ S' u,To T base S0 S' st.H w' ∧ Lq S' e e' ∧ Zv S' st.t a'.tmps ∧ RelD S' st.d a'.defers ∧ cs' = { c0 with mode := u } :: cs ∧ WN S' m r u0 u
theorem QbN {c : Code} {Q Q' : Exit → Act → List Frame → World → Prop} {a : Act} {cs : List Frame} {w : World} (h : c.wpS P Q a cs w) (hq : ∀ e a cs w,Q e a cs w → Q' e a cs w) : c.wpS P Q' a cs w :=
  fun b k h1 h2 => let ⟨e,a',cs',w',q,r⟩ := h b k h1 h2; ⟨e,a',cs',w',hq _ _ _ _ q,r⟩
theorem QsR {o : Oper} {a : Act} {K K' : Act → World → Prop} {Q Q' : Exit → Act → World → Prop} {x : Result Next} (hK : ∀ a w,K a w → K' a w) (hQ : ∀ e a w,Q e a w → Q' e a w) (h : o.upon P a K Q x) : o.upon P a K' Q' x := by
  cases x with
  | ok n w' =>
    cases n <;> simp only [Oper.upon] at h ⊢ <;>
      first
        | exact hK _ _ h
        | exact Calls.mono h (fun e w'' he => by
            cases e with
            | returned u => exact hK _ _ he
            | panicked ch => exact hQ _ _ _ he
            | outgrown => obtain ⟨a,w,he⟩ := he; exact ⟨a,w,hQ _ _ _ he⟩)
        | exact Rows.mono h (fun _ _ he => hK _ _ he)
  | halt x w' => cases x <;> simp only [Oper.upon] at h ⊢ <;> exact hQ _ _ _ h
theorem Xj (hcall : Yb T P call) {ops : List Oper} {S0 : Ctx} {c0 : Frame} {cs : List Frame} {u0 : FrameMode} : ∀ (l pre : List Oper) (st : St) {m m' : Option V} {rr rr' : Bool} {e : Ex} {st' : St} {S : Ctx} {a : Act} {w : World} {u : FrameMode},ops = pre ++ l →
    At T base S0 S st a w → WN S m rr u0 u → WP P base own call ops l m rr st = some (e,st',m',rr') →
    wpOpsS P ops.toArray (Lt T base S0 c0 cs u0 e st' m' rr') (List.range' pre.length l.length) a ({ c0 with mode := u } :: cs) w
  | [],pre,st,m,m',rr,rr',e,st',S,a,w,u,hp,hat,hm,h => by
    simp [WP] at h
    obtain ⟨rfl,rfl,rfl,rfl⟩ := h
    exact ⟨S,u,hat.to,trivial,hat.t,hat.d,rfl,hm⟩
  | o :: rest,pre,st,m,m',rr,rr',e,st',S,a,w,u,hp,hat,hm,h => by
    have ho : ops.toArray[pre.length]? = some o := by simp [hp]
    have hpre : ops = (pre ++ [o]) ++ rest := by simp [hp]
    have hlen : (pre ++ [o]).length = pre.length + 1 := by simp
    have hw0 := hat.to.w
    subst hw0
    simp only [List.length_cons,List.range'_succ,wpOpsS,ho]
    simp only [WP] at h
    split at h
    ·
      rename_i hir
      split at h
      · rename_i hgn
        have hgn' : o.guard = none := by simpa using hgn
        have hrec : (execOp a.eval o).run P S.w = .ok .recover S.w := by
          unfold isRecover at hir
          split at hir
          · rename_i c hop
            split at hir
            · rename_i hcal
              obtain ⟨bs,e'⟩ := Uz (P := P) (a := a) hop hcal S.w
              rw [e']
              simp [builtin]
            · simp at hir
          · simp at hir
        rw [if_pos (by simp [Region.wanted,hgn'])]
        rw [hrec]
        simp only
        have go : ∀ {m1 : Option V} {r1 : Bool} {v : V} {x : Value} {u1 : FrameMode},Rel S v x → WN S m1 r1 u0 u1 → WP P base own call ops rest m1 r1 { t := Z8 st.t o.dst v,H := st.H,d := st.d } = some (e,st',m',rr') →
            wpOpsS P ops.toArray (Lt T base S0 c0 cs u0 e st' m' rr') (List.range' (pre.length + 1) rest.length) (a.put o.dst x) ({ c0 with mode := u1 } :: cs) S.w := fun {m1 r1 v x u1} hx hm1 hh => by
          have := Xj hcall rest (pre ++ [o]) { t := Z8 st.t o.dst v,H := st.H,d := st.d } (S := S) (a := a.put o.dst x) (w := S.w) (u := u1) (c0 := c0) (cs := cs) hpre ⟨hat.to,P5 hat.t o.dst hx,by rw [put_defers]; exact hat.d,hat.b⟩ hm1 hh
          rwa [hlen] at this
        cases m with
        | some v =>
          simp only at h
          cases rr with
          | true => exact absurd hm.1 (by simp)
          | false =>
            obtain ⟨hu,x,hu2,hx⟩ := hm
            subst hu2
            have : recoverD ({ c0 with mode := FrameMode.panicking (entry x) } :: cs) = some (x,{ c0 with mode := .panicking [{ v := x,recovered := true }] } :: cs) := rfl
            rw [this]
            exact go hx (show WN S none true u0 _ from ⟨rfl,x,rfl⟩) h
        | none =>
          simp only at h
          have : recoverD ({ c0 with mode := u } :: cs) = none := by
            cases rr with
            | true => obtain ⟨_,x,rfl⟩ := hm; rfl
            | false =>
              obtain ⟨_,hu⟩ := hm
              have hu : u = .returning := hu
              subst hu; rfl
          rw [this]
          exact go .niface hm h
      · simp at h
    ·
      cases h1 : Zn P base own call ops o st.t st.H with
      | none => simp [h1] at h
      | some r =>
        obtain ⟨r,H1⟩ := r
        simp only [h1,Option.bind_some] at h
        cases r with
        | pan v => simp at h
        | ret v =>
          simp only at h
          rw [← hat.to.H] at h1
          have key := UK hcall hat.to.sim hat.le hat.t h1 (K := fun a' w' => wpOpsS P ops.toArray (Lt T base S0 c0 cs u0 e st' m' rr') (List.range' (pre.length + 1) rest.length) a' ({ c0 with mode := u } :: cs) w')
            (Q := fun _ _ _ => False) (fun v' hv' S' x to hx => by
              cases hv'
              have := Xj hcall rest (pre ++ [o]) { t := Z8 st.t o.dst v,H := H1,d := st.d } (S := S') (a := a.put o.dst x) (w := S'.w) (u := u) (c0 := c0) (cs := cs) hpre ⟨hat.to.trans (by have := to; rw [hat.to.H] at *; exact to),P5 (hat.t.mono to.ext) o.dst hx,by rw [put_defers]; exact hat.d.mono to.ext,hat.b⟩ (hm.mono to.ext) h
              rwa [hlen] at this) (fun v' hv' => by cases hv')
          unfold Jy at key
          split
          · rename_i hwn
            rw [if_pos (by simpa using hwn)] at key
            rcases key with key | ⟨_,_,_,hf⟩
            · unfold Oper.wp at key
              split
              · rename_i w1 hr
                rw [hr] at key
                exact key.elim
              · exact QsR (fun _ _ h => h) (fun _ _ _ h => h.elim) key
            · exact hf.elim
          · rename_i hwn
            rw [if_neg (by simpa using hwn)] at key
            exact key
theorem Qa6 (hcall : Yb T P call) (hloop : KF T P loop) (hmix : P.follows .mixedOrders = true) {c : Code} {st st' : St} {e : Ex} {m : Option V} {rr : Bool} {S0 S : Ctx} {a : Act} {w : World} {c0 : Frame} {cs : List Frame} {u0 u : FrameMode}
    (h : evC P base own ks call loop c st = some (e,st')) (hat : At T base S0 S st a w) (hm : WN S m rr u0 u) : c.wpS P (Lt T base S0 c0 cs u0 e st' m rr) a ({ c0 with mode := u } :: cs) w := by
  have hw0 := hat.to.w
  subst hw0
  have hat' : At T base S S st a S.w := ⟨⟨hat.to.H,rfl,rfl,Ext.refl S,hat.to.sim,by rw [hat.to.H]; exact Bd.refl _ _⟩,hat.t,hat.d,hat.le⟩
  refine wpS_of_wp (wp_mono (VB hcall hloop hmix c h hat') fun e' a' w' hp => ?_)
  obtain ⟨S',h1,h2,h3,h4⟩ := hp
  exact ⟨S',u,hat.to.trans h1,h2,h3,h4,rfl,hm.mono h1.ext⟩
theorem Mw (hcall : Yb T P call) (hloop : KF T P loop) (hmix : P.follows .mixedOrders = true) : ∀ (c : Code) {st st' : St} {e : Ex} {m m' : Option V} {rr rr' : Bool},evS P base own ks call loop c m rr st = some (e,st',m',rr') →
    ∀ {S0 S : Ctx} {a : Act} {w : World} {c0 : Frame} {cs : List Frame} {u0 u : FrameMode},At T base S0 S st a w → WN S m rr u0 u → c.wpS P (Lt T base S0 c0 cs u0 e st' m' rr') a ({ c0 with mode := u } :: cs) w
  | .seq x y,st,st',e,m,m',rr,rr',h,S0,S,a,w,c0,cs,u0,u,hat,hm => by
    simp only [evS] at h
    cases hx : evS P base own ks call loop x m rr st with
    | none => simp [hx] at h
    | some q =>
      obtain ⟨e1,st1,m1,r1⟩ := q
      simp only [hx,Option.bind_some] at h
      refine wpS_seq (QbN (Mw hcall hloop hmix x hx hat hm) fun e' a' cs' w' hp => ?_)
      obtain ⟨S1,u1,h1,h2,h3,h4,rfl,h6⟩ := hp
      cases e1 with
      | normal =>
        cases e' <;> first
          | exact h2.elim
          | exact Mw hcall hloop hmix y h ⟨h1,h3,h4,hat.b⟩ h6
      | _ =>
        simp at h
        obtain ⟨rfl,rfl,rfl,rfl⟩ := h
        cases e' <;> first
          | exact h2.elim
          | exact ⟨S1,u1,h1,h2,h3,h4,rfl,h6⟩
  | .cond c x y,st,st',e,m,m',rr,rr',h,S0,S,a,w,c0,cs,u0,u,hat,hm => by
    simp only [evS] at h
    have hr := ZL hat.t c
    split at h
    · rename_i hc
      rw [hc] at hr
      exact wpS_cond (t := true) (Ri hr) (Mw hcall hloop hmix x h hat hm)
    · rename_i hc
      rw [hc] at hr
      exact wpS_cond (t := false) (Ri hr) (Mw hcall hloop hmix y h hat hm)
    · simp at h
  | .region id ops draw,st,st',e,m,m',rr,rr',h,S0,S,a,w,c0,cs,u0,u,hat,hm => by
    simp only [evS] at h
    cases draw with
    | true =>
      simp only [if_true] at h
      cases hx : evC P base own ks call loop (.region id ops true) st with
      | none => simp [hx] at h
      | some q =>
        simp only [hx,Option.bind_some,Option.some.injEq,Prod.mk.injEq] at h
        obtain ⟨rfl,rfl,rfl,rfl⟩ := h
        exact Qa6 hcall hloop hmix hx hat hm
    | false =>
      simp only [Bool.false_eq_true,if_false] at h
      refine wpS_region ?_
      have := Xj hcall (ops := ops.toList) (c0 := c0) (cs := cs) ops.toList [] st rfl hat hm h
      simpa [List.range_eq_range'] using this
  | .skip,st,st',e,m,m',rr,rr',h,S0,S,a,w,c0,cs,u0,u,hat,hm | .label _,st,st',e,m,m',rr,rr',h,S0,S,a,w,c0,cs,u0,u,hat,hm
  | .block _ _,st,st',e,m,m',rr,rr',h,S0,S,a,w,c0,cs,u0,u,hat,hm | .loop _,st,st',e,m,m',rr,rr',h,S0,S,a,w,c0,cs,u0,u,hat,hm
  | .scope _,st,st',e,m,m',rr,rr',h,S0,S,a,w,c0,cs,u0,u,hat,hm | .exit _,st,st',e,m,m',rr,rr',h,S0,S,a,w,c0,cs,u0,u,hat,hm
  | .ret,st,st',e,m,m',rr,rr',h,S0,S,a,w,c0,cs,u0,u,hat,hm | .goto _,st,st',e,m,m',rr,rr',h,S0,S,a,w,c0,cs,u0,u,hat,hm
  | .rangeFunc ..,st,st',e,m,m',rr,rr',h,S0,S,a,w,c0,cs,u0,u,hat,hm => by
    simp only [evS] at h
    first
      | (simp [evC] at h; done)
      | (obtain ⟨q,hq,h⟩ := Option.bind_eq_some_iff.1 h
         simp only [Option.some.injEq,Prod.mk.injEq] at h
         obtain ⟨h1,h2,rfl,rfl⟩ := h
         subst h1; subst h2
         exact Qa6 hcall hloop hmix hq hat hm)
theorem Qq1 (hcall : Yb T P call) (hloop : KF T P loop) (hmix : P.follows .mixedOrders = true) {f : FuncId} (hn : ∀ fn : Func,P.funcs[f]? = some fn → fn.body.isSome = true → (fn.name == "runtime.NumGoroutine") = false) :
    Qnx T P f (Nl P h call loop f) := by
  intro args m H b H' hc S uargs u hH hS hA hm
  unfold Nl at hc
  cases hin : h.intr f with
  | some g => simp [hin] at hc
  | none =>
    simp only [hin] at hc
    cases hf : P.funcs[f]? with
    | none => simp [hf] at hc
    | some fn =>
      simp only [hf] at hc
      cases hb : fn.body with
      | none => simp [hb] at hc
      | some c =>
        simp only [hb] at hc
        split at hc
        · rename_i hle
          subst hH
          cases he : evS P 0 (h.own f) (h.ks f) call loop c m false { t := args ++ List.replicate (fn.ntmps - args.length) .junk,H := S.H,d := [] } with
          | none => simp [he] at hc
          | some q =>
            obtain ⟨e,st,m1,r1⟩ := q
            simp only [he,Option.bind_some] at hc
            refine ⟨TD (hn fn hf (by simp [hb])) hf hb _ _,callsD_of_wpS hf hb fun c0 cs hu => ?_⟩
            have hat : At T 0 S S { t := args ++ List.replicate (fn.ntmps - args.length) .junk,H := S.H,d := [] } { tmps := uargs ++ Array.replicate (fn.ntmps - uargs.size) undef,defers := [] } S.w :=
              ⟨⟨rfl,rfl,rfl,Ext.refl S,hS,Bd.refl _ _⟩,Qht hA hle,.nil,Nat.zero_le _⟩
            have hms : WN S m false u u := ⟨rfl,hm⟩
            have key := Mw hcall hloop hmix c he (c0 := c0) (cs := cs) hat hms
            have hc0 : ({ c0 with mode := u } : Frame) = c0 := by subst hu; rfl
            rw [hc0] at key
            refine QbN key fun e' a' cs' w' hp => ?_
            obtain ⟨S1,u1,t1,t2,t3,t4,t5,t6⟩ := hp
            have fin : (if st.d.isEmpty = true then (JC P st fn.results.toList).bind fun _ => if KJ S.H.length st.H = true then some (r1,Jm st.H S.H.length) else none else none) = some (b,H') →
                a'.defers = [] ∧ ∃ u',cs' = { c0 with mode := u' } :: cs ∧ ∃ v,(results fn a'.tmps).run P w' = .ok v w' ∧ (∃ x S',Ending.returned v = .returned x ∧ To T S.H.length S S' H' w' ∧ (if b then Go.settle u' = .returning else u' = u)) := by
              intro hh
              split at hh
              · rename_i hemp
                have hd : st.d = [] := by simpa using hemp
                rw [hd] at t4
                cases hv : JC P st fn.results.toList with
                | none => simp [hv] at hh
                | some v =>
                  simp [hv] at hh
                  obtain ⟨hk,rfl,rfl⟩ := hh
                  have hw := t1.w
                  subst hw
                  have hv' : JC P { t := st.t,H := S1.H,d := st.d } fn.results.toList = some v := by rw [t1.H]; exact hv
                  obtain ⟨x,h1,h2⟩ := Qcp t1.sim t3 hv'
                  refine ⟨by generalize a'.defers = es at t4; cases t4; rfl,u1,t5,x,h2,x,S1.trunc S.H.length,rfl,CG hS t1.wild rfl hk,?_⟩
                  cases r1 with
                  | true => obtain ⟨_,y,rfl⟩ := t6; rfl
                  | false => exact t6.1
              · simp at hh
            cases e with
            | normal =>
              cases e' <;> first
                | exact t2.elim
                | exact fin hc
            | ret =>
              cases e' <;> first
                | exact t2.elim
                | exact fin hc
            | exit i => simp at hc
            | pan v => simp at hc
        · simp at hc
theorem QcZ (hcall : Yb T P call) (hloop : KF T P loop) (hmix : P.follows .mixedOrders = true) (hn : UO P) : KU T P (Nl P h call loop) :=
  fun f => Qq1 hcall hloop hmix (fun fn => hn f fn)
end Go.Ev
end
