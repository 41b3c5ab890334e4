/- EvG: a part of the proof that each law of this seat answers true at every input. No condition. -/
import Derived.Test.YtdnmpaielmfiiaaDoorEvF
import Derived.Lib.Bytealg
import Derived.Lib.LaidTab
import Derived.Below
import Derived.WalkSmall
import Derived.Sort.Grow
import Derived.RowKit
set_option linter.unusedVariables false
set_option linter.unusedSimpArgs false
section
namespace Go.Ev
variable {T : Zc}
open Go Go.RowKit
open Go.Sort (grow)
theorem enters {P : Program} {f : FuncId} {fn : Func} (hf : P.funcs[f]? = some fn) (hb : fn.body.isSome = true) (hn : (fn.name == "runtime.NumGoroutine") = false) (args : Array Value) (w : World) : (callFunc f args).run P w = .ok (.enter f args) w := by
 obtain ⟨c,hc⟩ := Option.isSome_iff_exists.1 hb
 have h1 : fn.name ≠ "runtime.NumGoroutine" := by simpa using hn
 simp [callFunc,hf,h1,hc,mark]
theorem GB (S : Ctx) (l : List UInt8) : Rel S (.str l) (.string ⟨l.toArray⟩) := by
 have := Rel.str (S := S) ⟨l.toArray⟩
 simpa using this
theorem KT {w w' : World} (h : Below w.heap.size w w') : Grew w w' := ⟨h.size,fun c hc => h.block c hc,h.os,h.tape,h.output⟩
theorem L5 {P : Program} {f : FuncId} {g : List V → Qa → Option V} (h : ∀ args H v,g args H = some v → ∀ (S : Ctx) (uargs : Array Value),S.H = H → Sim T S → RelA S args uargs →
   Calls P f uargs S.w fun e w' => ∃ u,e = .returned u ∧ Below S.w.heap.size S.w w' ∧ ∀ S',Ext S S' → Rel S' v u)
  (hen : ∀ args w,(callFunc f args).run P w = .ok (.enter f args) w) : Mod T P f (iRd g) := by
 intro args H r H' hm S uargs hH hS hA
 refine ⟨hen _ _,?_⟩
 unfold iRd at hm
 obtain ⟨v,h1,h2⟩ := Option.map_eq_some_iff.1 hm
 injection h2 with h2 h3
 subst h2
 subst h3
 subst hH
 refine (h args _ v h1 S uargs rfl hS hA).mono fun e w' he => ?_
 obtain ⟨u,rfl,hb,hr⟩ := he
 have hg := KT hb
 exact ⟨S.at w',⟨rfl,rfl,rfl,Ju hS hg,Wx hS hg,Bd.refl _ _⟩,hr _ (Ju hS hg)⟩
theorem RelA.one {S : Ctx} {v : V} {us : Array Value} (h : RelA S [v] us) : ∃ u,us = #[u] ∧ Rel S v u := by
 have h2 := h.size
 simp at h2
 refine ⟨us[0],?_,h.get 0 v us[0] rfl (by simp [h2])⟩
 apply Array.ext (by simp [h2])
 intro i hi hj
 match i with
 | 0 => rfl
 | i + 1 => simp at hj
theorem RelA.two {S : Ctx} {v v' : V} {us : Array Value} (h : RelA S [v,v'] us) : ∃ u u',us = #[u,u'] ∧ Rel S v u ∧ Rel S v' u' := by
 have h2 := h.size
 simp at h2
 refine ⟨us[0],us[1],?_,h.get 0 v us[0] rfl (by simp [h2]),h.get 1 v' us[1] rfl (by simp [h2])⟩
 apply Array.ext (by simp [h2])
 intro i hi hj
 match i with
 | 0 => rfl
 | 1 => rfl
 | i + 2 => simp at hj; omega
theorem Lo {S : Ctx} {l : List UInt8} {u : Value} (h : Rel S (.str l) u) : ∃ bs : ByteArray,u = .string bs ∧ l = bs.data.toList := by
 cases h with
 | str bs => exact ⟨bs,rfl,rfl⟩
theorem ZQ {S : Ctx} {k : IntKind} {n : Int} {u : Value} (h : Rel S (.int k n) u) : u = .int k n := by cases h; rfl
theorem Ql0 {P : Program} {f : FuncId} (h : ∀ (n : Int),-9223372036854775808 ≤ n → n ≤ 9223372036854775807 → ∀ w : World,Lib.TabIs P w "internal/strconv.uint64pow10" .u64 Lib.pow10Tab →
   Calls P f #[.int .i64 n] w fun e w' => e = .returned (.string ⟨(Lib.itoa n).toArray⟩) ∧ ∃ k os,w' = grow (w.drewN k) os)
  (hT : ∀ S : Ctx,Sim T S → Lib.TabIs P S.w "internal/strconv.uint64pow10" .u64 Lib.pow10Tab) (hen : ∀ args w,(callFunc f args).run P w = .ok (.enter f args) w) : Mod T P f (iRd RE) := by
 refine L5 (fun args H v hv S uargs hH hS hA => ?_) hen
 unfold RE at hv
 split at hv
 ·rename_i n
  split at hv
  ·rename_i hn
   injection hv with hv
   subst hv
   obtain ⟨u,rfl,hu⟩ := hA.one
   rw [ZQ hu]
   refine (h n hn.1 hn.2 S.w (hT S hS)).mono fun e w' he => ?_
   obtain ⟨rfl,k,os,rfl⟩ := he
   refine ⟨_,rfl,⟨rfl,rfl,rfl,by simp [grow,World.drewN],fun i hi => ?_⟩,fun S' _ => GB S' _⟩
   simp only [grow]
   rw [Array.getElem?_append_left (by simpa [World.drewN] using hi)]; rfl
  ·simp at hv
 ·simp at hv
theorem QgJ : ∀ {cs : List V} {l : List (List UInt8)},Km cs = some l → cs = l.map V.str
 | [],l,h => by simp [Km] at h; subst h; rfl
 | v :: cs,l,h => by
  cases v with
  | str s =>
   simp only [Km] at h
   obtain ⟨r,h1,h2⟩ := Option.map_eq_some_iff.1 h
   subst h2
   rw [QgJ h1]; rfl
  | _ => simp [Km] at h
theorem Qql {P : Program} {f : FuncId} (h0 : ∀ (a : Option Addr) (c : Nat) (sep : ByteArray) (w : World),Calls P f #[.slice a 0 c,.string sep] w fun e w' => e = .returned (.string ⟨#[]⟩) ∧ w' = w)
  (h : ∀ (bk o c : Nat) (xs : List ByteArray) (sep : ByteArray) (w : World),(∀ (j : Nat) x,xs[j]? = some x → w.cell? ⟨bk,o + j,none⟩ = some (.string x)) → bk < w.heap.size → xs.length ≤ 140737488355328 → xs.length ≤ c →
    (Lib.join (xs.map (·.data.toList)) sep.data.toList).length ≤ 140737488355328 →
   Calls P f #[.slice (some ⟨bk,o,none⟩) xs.length c,.string sep] w fun e w' => e = .returned (.string ⟨(Lib.join (xs.map (·.data.toList)) sep.data.toList).toArray⟩) ∧ Below w.heap.size w w')
  (hen : ∀ args w,(callFunc f args).run P w = .ok (.enter f args) w) : Mod T P f (iRd UJ) := by
 refine L5 (fun args H v hv S uargs hH hS hA => ?_) hen
 subst hH
 unfold UJ at hv
 split at hv
 ·rename_i x sep
  cases hk : ZB x with
  | none => simp [hk] at hv
  | some n =>
  cases hc : ZM 1 S.H x with
  | none => simp [hk,hc] at hv
  | some cs =>
  cases hl : Km cs with
  | none => simp [hk,hc,hl] at hv
  | some l =>
  simp only [hk,hc,hl,Option.bind_some] at hv
  split at hv
  ·rename_i hb
   injection hv with hv
   subst hv
   obtain ⟨u,u',rfl,hu,hu'⟩ := hA.two
   obtain ⟨sb,rfl,rfl⟩ := Lo hu'
   obtain ⟨e1,p,cap,rfl,hz,hcell⟩ := NS hS hu hk hc
   have e2 := QgJ hl
   subst e2
   simp only [List.length_map,Nat.mul_one] at e1
   subst e1
   have hcap : l.length ≤ cap := by
    clear hcell hz
    generalize l.length = L at hu
    cases hu <;> first | assumption | exact Nat.zero_le _ | (simp [ZB] at hk)
   cases l with
   | nil =>
    refine (h0 p cap sb S.w).mono fun e w' he => ?_
    obtain ⟨rfl,rfl⟩ := he
    exact ⟨_,rfl,Below.refl _ _,fun S' _ => by simpa [Lib.join_nil] using GB S' []⟩
   | cons s l =>
    cases p with
    | none => have := hz rfl; simp at this
    | some ad =>
     have Qh : ∀ (j : Nat) (s' : List UInt8),(s :: l)[j]? = some s' → ∃ bs : ByteArray,S.w.cell? (ad.add j) = some (.string bs) ∧ s' = bs.data.toList := fun j s' hj => by
      obtain ⟨u1,k1,k2⟩ := hcell ad rfl j (.str s') (by rw [List.getElem?_map,hj]; rfl)
      obtain ⟨bs,rfl,rfl⟩ := Lo k2
      exact ⟨bs,k1,rfl⟩
     have hex : ∃ xs : List ByteArray,xs.map (·.data.toList) = s :: l ∧ ∀ (j : Nat) x,xs[j]? = some x → S.w.cell? (ad.add j) = some (.string x) := by
      refine ⟨(s :: l).map fun s' => ⟨s'.toArray⟩,by simp [Function.comp_def],fun j x hj => ?_⟩
      rw [List.getElem?_map] at hj
      obtain ⟨s',h1,h2⟩ := Option.map_eq_some_iff.1 hj
      obtain ⟨bs,k1,k2⟩ := Qh j s' h1
      subst h2
      rw [k1,k2]
     obtain ⟨xs,hx1,hx2⟩ := hex
     have hlen : xs.length = (s :: l).length := by rw [← hx1]; simp
     have hsp : ad.spot = none := by
      obtain ⟨bs,k1,_⟩ := Qh 0 s rfl
      unfold World.cell? at k1
      simp only [Addr.add,if_true] at k1
      cases hs : ad.spot with
      | none => rfl
      | some _ => rw [hs] at k1; split at k1 <;> simp at k1
     have hadd : ∀ j,ad.add j = ⟨ad.block,ad.off + j,none⟩ := fun j => by
      unfold Addr.add
      split
      ·rename_i h0; subst h0; cases ad; simp only at hsp; subst hsp; simp
      ·rfl
     have had : ad = ⟨ad.block,ad.off,none⟩ := by cases ad; simp only at hsp; subst hsp; rfl
     have hbk : ad.block < S.w.heap.size := by
      obtain ⟨bs,k1,_⟩ := Qh 0 s rfl
      have := World.block_lt_of_cell? _ _ k1
      rwa [hadd] at this
     have key := h ad.block ad.off cap xs sb S.w (fun j x hj => by rw [← hadd]; exact hx2 j x hj) hbk (by omega) (by omega) (by rw [hx1]; exact hb.2)
     rw [← had,hlen,hx1] at key
     refine key.mono fun e w' he => ?_
     obtain ⟨rfl,hbw⟩ := he
     exact ⟨_,rfl,hbw,fun S' _ => GB S' _⟩
  ·simp at hv
 ·simp at hv
theorem Qim {P : Program} {f : FuncId} (h : ∀ (x : Int) (w : World),0 ≤ x → x ≤ 18446744073709551615 → Lib.TabIs P w "math/bits.deBruijn64tab" .u8 Yu →
   Calls P f #[.int .u64 x] w fun e w' => e = .returned (.int .i64 (if x = 0 then 64 else Yu.getD (Yd x).toNat 0)) ∧ Below w.heap.size w w')
  (hT : ∀ S : Ctx,Sim T S → Lib.TabIs P S.w "math/bits.deBruijn64tab" .u8 Yu) (hen : ∀ args w,(callFunc f args).run P w = .ok (.enter f args) w) : Mod T P f (iRd gTZ) := by
 refine L5 (fun args H v hv S uargs hH hS hA => ?_) hen
 unfold gTZ at hv
 split at hv
 ·rename_i x
  split at hv
  ·rename_i hn
   injection hv with hv
   subst hv
   obtain ⟨u,rfl,hu⟩ := hA.one
   rw [ZQ hu]
   refine (h x S.w hn.1 hn.2 (hT S hS)).mono fun e w' he => ?_
   obtain ⟨rfl,hb⟩ := he
   exact ⟨_,rfl,hb,fun S' _ => .int _ _⟩
  ·simp at hv
 ·simp at hv
theorem Tk {P : Program} {S : Ctx} (hS : Sim T S) {name : String} {k : IntKind} {zs : List Int} {g : Nat} (hg : P.globalNamed name = some g) (ht : T g (zs.map fun z => Value.int k z).toArray) : Lib.TabIs P S.w name k zs := by
 obtain ⟨_,_,e,fr,h⟩ := hS.tab g _ ht
 unfold Lib.TabIs World.var?
 rw [hg]
 simp only [Option.bind_some,h]
end Go.Ev
end
section
namespace Go.Ev
def R8 : List (Nat × (Qr → List V → Qa → Option (Out × Qa))) → Nat → Option (Qr → List V → Qa → Option (Out × Qa))
 | [],_ => none
 | (i,g) :: r,f => match Nat.beq i f with
  | true => some g
  | false => R8 r f
def Uz (g : Qr → List V → Qa → Option (Out × Qa)) : Prop := ∀ args H call,Qi (fun c => g c args H) call
theorem EN : ∀ (l : List (Nat × (Qr → List V → Qa → Option (Out × Qa)))) (f : Nat) (g : Qr → List V → Qa → Option (Out × Qa)),R8 l f = some g → (f,g) ∈ l
 | [],f,g,h => by cases h
 | (i,g') :: r,f,g,h => by
  unfold R8 at h
  split at h
  ·rename_i he
   injection h with h
   subst h
   have := Nat.eq_of_beq_eq_true he
   subst this
   exact List.mem_cons_self
  ·exact List.mem_cons_of_mem _ (EN r f g h)
theorem Qn6 {l : List (Nat × (Qr → List V → Qa → Option (Out × Qa)))} (h : ∀ p ∈ l,Uz p.2) : ∀ f g,R8 l f = some g → ∀ args H call,Qi (fun c => g c args H) call :=
 fun f g hg => h _ (EN l f g hg)
theorem QqT : ∀ p ∈ ([] : List (Nat × (Qr → List V → Qa → Option (Out × Qa)))),Uz p.2 := fun p hp => by simp at hp
theorem QkH {i : Nat} {g : Qr → List V → Qa → Option (Out × Qa)} {l : List (Nat × (Qr → List V → Qa → Option (Out × Qa)))} (h : Uz g) (k : ∀ p ∈ l,Uz p.2) : ∀ p ∈ (i,g) :: l,Uz p.2 := fun p hp => by
 rcases List.mem_cons.1 hp with rfl | hp
 ·exact h
 ·exact k p hp
def txB (k : Int) : List UInt8 × List UInt8 × List UInt8 := if k = 5 then ([],[],[42]) else if k = 3 then ([],[40],[41]) else ([124],[123],[125])
noncomputable def Jn (f : V → Option (List UInt8)) (sep : List UInt8) : Bool → List V → Option (List UInt8)
 | _,[] => some []
 | b,x :: xs => (f x).bind fun t => (Jn f sep false xs).bind fun r => some ((if b then [] else sep) ++ t ++ r)
noncomputable def strOf (r : Out × Qa) : Option (List UInt8) := match r with
 | (.ret (.str t),[]) => some t
 | _ => none
noncomputable def oTx (call : Qr) (fS : FuncId) : Nat → V → Option (List UInt8)
 | 0,_ => none
 | n + 1,v => match v with
  | .agg [.int .i64 k,.int .u64 a,.int .u64 b,.int .u64 c,.int .u64 d,.vs ks] =>
   if k = 0 then some [48] else if k = 1 then some [49] else
   if k = 2 then (call fS [.agg [.int .u64 a,.int .u64 b,.int .u64 c,.int .u64 d]] []).bind strOf
   else if ks.length ≤ 4611686018427387904 then (Jn (oTx call fS n) (txB k).1 true ks).bind fun t => some ((txB k).2.1 ++ t ++ (txB k).2.2) else none
  | _ => none
noncomputable def Ua (fS : FuncId) (call : Qr) (args : List V) (H : Qa) : Option (Out × Qa) := match args with
 | [v] => (oTx call fS 900000000000 v.nrm).bind fun t => if t.length ≤ 100000000000000 then some (.ret (.str t),H) else none
 | _ => none
theorem QfE {call : Qr} {f : Qr → V → Option (List UInt8)} (hf : ∀ x,Qi (fun c => f c x) call) {sep : List UInt8} : ∀ (xs : List V) (b : Bool),Qi (fun c => Jn (f c) sep b xs) call
 | [],b => Qi.const _
 | x :: xs,b => by
  simp only [Jn]
  exact Qi.bind (hf x) fun t => Qi.bind (QfE hf xs false) fun r => Qi.const _
theorem QaF {fS : FuncId} {call : Qr} : ∀ (n : Nat) (v : V),Qi (fun c => oTx c fS n v) call
 | 0,v => Qi.const _
 | n + 1,v => by
  simp only [oTx]
  split
  ·split
   ·exact Qi.const _
   ·split
    ·exact Qi.const _
    ·split
     ·exact Qi.bind (Qi.one _ _ _) fun r => Qi.const _
     ·split
      ·exact Qi.bind (QfE (fun x => QaF n x) _ _) fun t => Qi.const _
      ·exact Qi.const _
  ·exact Qi.const _
theorem QlD (fS : FuncId) : Uz (Ua fS) := by
 intro args H call
 unfold Ua
 split
 ·exact Qi.bind (QaF _ _) fun t => Qi.const _
 ·exact Qi.const _
theorem QoV {r : Out × Qa} {t : List UInt8} (h : strOf r = some t) : r = (.ret (.str t),[]) := by
 unfold strOf at h
 split at h
 ·injection h with h; subst h; rfl
 ·cases h
end Go.Ev
end
section
namespace Go.Bits
def bl (n : Nat) : List Nat := (List.range 64).filter fun i => n.testBit i
theorem QnD : ∀ n : Nat,0 < n → ∃ k m,n = 2 ^ k * (2 * m + 1) := by
 intro n
 induction n using Nat.strongRecOn with
 | ind n ih =>
  intro h
  by_cases h2 : n % 2 = 1
  ·exact ⟨0,n / 2,by omega⟩
  ·obtain ⟨k,m,e⟩ := ih (n / 2) (by omega) (by omega)
   refine ⟨k + 1,m,?_⟩
   rw [Nat.pow_succ,Nat.mul_assoc,Nat.mul_left_comm,← e]
   omega
theorem W7 {k a j : Nat} : (2 ^ k * a).testBit j = if j < k then false else a.testBit (j - k) := by
 have := Nat.testBit_two_pow_mul_add a (b := 0) (i := k) (Nat.two_pow_pos k) j
 simpa using this
theorem Ec {m j : Nat} : (2 * m + 1).testBit j = (j == 0 || m.testBit (j - 1)) := by
 cases j with
 | zero => simp [Nat.testBit_zero]
 | succ j => rw [Nat.testBit_succ,show (2 * m + 1) / 2 = m by omega]; simp
theorem Qd0 {m j : Nat} : (2 * m).testBit j = (j != 0 && m.testBit (j - 1)) := by
 cases j with
 | zero => simp [Nat.testBit_zero]
 | succ j => rw [Nat.testBit_succ,show (2 * m) / 2 = m by omega]; simp
theorem TY {k m : Nat} : 2 ^ k * (2 * m + 1) &&& (2 ^ k * (2 * m + 1) - 1) = 2 ^ k * (2 * m) := by
 refine Nat.eq_of_testBit_eq fun j => ?_
 have e : 2 ^ k * (2 * m + 1) - 1 = 2 ^ k * (2 * m) + (2 ^ k - 1) := by
  have := Nat.two_pow_pos k
  rw [Nat.mul_add,Nat.mul_one]; omega
 have hlt : 2 ^ k - 1 < 2 ^ k := by have := Nat.two_pow_pos k; omega
 rw [Nat.testBit_and,W7,e,Nat.testBit_two_pow_mul_add _ hlt,W7]
 by_cases h : j < k
 ·simp [h]
 ·simp only [h,if_false,Ec,Qd0]
  cases j - k == 0 <;> simp_all
theorem Qn9 {k m : Nat} (h : 2 ^ k * (2 * m + 1) < 2 ^ 64) : 2 ^ k * (2 * m + 1) &&& (2 ^ 64 - 2 ^ k * (2 * m + 1)) = 2 ^ k := by
 have hk : k < 64 := by
  rcases Nat.lt_or_ge k 64 with h' | h'
  ·exact h'
  ·have := Nat.pow_le_pow_right (show 0 < 2 by omega) h'
   have h3 : 2 ^ k * 1 ≤ 2 ^ k * (2 * m + 1) := Nat.mul_le_mul_left _ (by omega)
   omega
 have e64 : 2 ^ 64 = 2 ^ k * (2 * 2 ^ (63 - k)) := by rw [show (2 : Nat) * 2 ^ (63 - k) = 2 ^ (63 - k + 1) by rw [Nat.pow_succ,Nat.mul_comm],← Nat.pow_add]; congr 1; omega
 have hm : m < 2 ^ (63 - k) := by
  rw [e64] at h
  have := Nat.lt_of_mul_lt_mul_left h
  omega
 have e : 2 ^ 64 - 2 ^ k * (2 * m + 1) = 2 ^ k * (2 * (2 ^ (63 - k) - (m + 1)) + 1) := by
  rw [e64,← Nat.mul_sub]
  congr 1; omega
 refine Nat.eq_of_testBit_eq fun j => ?_
 rw [Nat.testBit_and,W7,e,W7,Nat.testBit_two_pow]
 by_cases h1 : j < k
 ·simp [h1]; omega
 ·simp only [h1,if_false,Ec,Nat.testBit_two_pow_sub_succ hm]
  by_cases h2 : j = k
  ·subst h2; simp
  ·have : (j - k == 0) = false := by simp; omega
   simp only [this,Bool.false_or]
   have h3 : decide (k = j) = false := by simp; omega
   rw [h3]
   cases m.testBit (j - k - 1) <;> simp
theorem Qf1 {p q : Nat → Bool} {k : Nat} : ∀ n,k < n → (∀ j,j < k → p j = false) → p k = true → (∀ j,q j = (p j && j != k)) → (List.range n).filter p = k :: (List.range n).filter q
 | 0,h,_,_,_ => by omega
 | n + 1,h,h1,h2,h3 => by
  rw [List.range_succ,List.filter_append,List.filter_append]
  by_cases e : k = n
  ·subst e
   have a : (List.range k).filter p = [] := List.filter_eq_nil_iff.2 fun j hj => by simp [h1 j (List.mem_range.1 hj)]
   have b : (List.range k).filter q = [] := List.filter_eq_nil_iff.2 fun j hj => by simp [h3,h1 j (List.mem_range.1 hj)]
   rw [a,b]
   simp [h2,h3]
  ·rw [Qf1 n (by omega) h1 h2 h3]
   simp only [List.cons_append,List.cons.injEq,true_and]
   congr 1
   have : q n = p n := by rw [h3]; simp; omega
   simp only [List.filter_cons,List.filter_nil,this]
theorem bl_step {n : Nat} (h0 : 0 < n) (h1 : n < 2 ^ 64) : ∃ k,k < 64 ∧ n &&& (2 ^ 64 - n) = 2 ^ k ∧ bl n = k :: bl (n &&& (n - 1)) ∧ n &&& (n - 1) < n := by
 obtain ⟨k,m,rfl⟩ := QnD n h0
 have hk : k < 64 := by
  rcases Nat.lt_or_ge k 64 with h' | h'
  ·exact h'
  ·have := Nat.pow_le_pow_right (show 0 < 2 by omega) h'
   have h3 : 2 ^ k * 1 ≤ 2 ^ k * (2 * m + 1) := Nat.mul_le_mul_left _ (by omega)
   omega
 refine ⟨k,hk,Qn9 h1,?_,?_⟩
 ·rw [TY]
  refine Qf1 64 hk (fun j hj => ?_) ?_ fun j => ?_
  ·rw [W7,if_pos hj]
  ·rw [W7,if_neg (by omega),Ec]; simp
  ·rw [W7,W7,Ec,Qd0]
   by_cases h : j < k
   ·simp [h]
   ·simp only [h,if_false]
    by_cases e : j = k
    ·subst e; simp
    ·have e1 : (j - k == 0) = false := by simp; omega
     have e2 : (j - k != 0) = true := by simp; omega
     have e3 : (j != k) = true := by simp; omega
     rw [e1,e2,e3]; simp
 ·rw [TY]
  exact Nat.mul_lt_mul_of_pos_left (by omega) (Nat.two_pow_pos k)
theorem bl_zero : bl 0 = [] := by simp [bl]
end Go.Bits
end
section
namespace Go.Ev
def Zi (ws : List Nat) (i : Nat) : List Int := (List.range i).flatMap fun j => (Bits.bl (ws.getD j 0)).map fun k => ((j * 64 + k : Nat) : Int)
def Z2 (l : List (Int × Int)) (b : Int) : List (Int × Int) := match l.getLast? with
 | some x => if x.2 = Go.RowKit.wrap64 (b - 1) then l.dropLast ++ [(x.1,b)] else l ++ [(b,b)]
 | none => [(b,b)]
def rgs (xs : List Int) : List (Int × Int) := xs.foldl Z2 []
def Lx : List V → Qa → Option V
 | [.str a,.str b],_ => some (.int .i64 (Lib.compareBytes a b))
 | _,_ => none
def Uq (a : Int) : Bool := decide (0 ≤ a) && decide (a < 18446744073709551616)
def NI : List V → Qa → Option V
 | [.agg [.int .u64 a,.int .u64 b,.int .u64 c,.int .u64 d]],_ =>
  if (Uq a && Uq b && Uq c && Uq d) = true then some (.vs ((rgs (Zi [a.toNat,b.toNat,c.toNat,d.toNat] 4)).map fun x => .agg [.int .i64 x.1,.int .i64 x.2])) else none
 | _,_ => none
def WC : List V → Qa → Option (Out × Qa)
 | [.rs i ver 6 0 n,.int .i64 0,.vs [.agg x]],H => match Qh H i with
  | some (.row v 6 true cs) => if ver = v ∧ x.length = 6 ∧ Qv x = true ∧ Qv (cs.take (n * 6)) = true ∧ n ≤ 1000000000000 then
    if (n + 1) * 6 ≤ cs.length then some (.ret (.rs i v 6 0 (n + 1)),Qn H i (.row v 6 true (x ++ cs.take (n * 6) ++ cs.drop ((n + 1) * 6))))
    else if cs.length = n * 6 then some (.ret (.rs i (v + 1) 6 0 (n + 1)),Qn H i (.row (v + 1) 6 true (x ++ cs))) else none
   else none
  | _ => none
 | [.emp,.int .i64 0,.vs [.agg x]],H => if x.length = 6 ∧ Qv x = true then some (.ret (.rs H.length 0 6 0 1),.row 0 6 true x :: H) else none
 | _,_ => none
def Bu : List V → Qa → Option (Out × Qa)
 | [.vs []],H => some (.ret .emp,H)
 | [.vs (x :: xs)],H => if Yz 6 (x :: xs) = true ∧ Qv (flat (x :: xs)) = true ∧ (x :: xs).length ≤ 1000000000000 then some (.ret (.rs H.length 0 6 0 (xs.length + 1)),.row 0 6 true (flat (x :: xs)) :: H) else none
 | _,_ => none
end Go.Ev
end
