/- Wd: a part of the proof that each law of this seat answers true at every input. No condition. -/
import Derived.Test.YtdnmpaielmfiiaaDoorWb
import Derived.Test.YtdnmpaielmfiiaaDoorWc
import Derived.Test.YtdnmpaielmfiiaaDoorXa
import Derived.Test.YtdnmpaielmfiiaaDoorEvGb
import Derived.BigCall
import Derived.Test.YtdnmpaielmfiiaaDoorRows
import Derived.Lib.TrailingZeros
set_option linter.unusedVariables false
set_option linter.unusedSimpArgs false
set_option maxRecDepth 2000
section
namespace Go.Proofs.YtdnmpaielmfiiaaDoor
open Go Go.Ev Go.RowKit
theorem QlZ {S : Ctx} (h : Sim tabs S) : Lib.TabIs Tryd.prog S.w "internal/strconv.uint64pow10" .u64 Lib.pow10Tab := Tk h (show Tryd.prog.globalNamed "internal/strconv.uint64pow10" = some 2 by kernel_rfl) (.inl ⟨rfl,rfl⟩)
theorem QeM {S : Ctx} (h : Sim tabs S) : Lib.TabIs Tryd.prog S.w "math/bits.deBruijn64tab" .u8 Yu := Tk h (show Tryd.prog.globalNamed "math/bits.deBruijn64tab" = some 1 by kernel_rfl) (.inr ⟨rfl,rfl⟩)
theorem QpD {W : World} (h : Lib.TabIs Tryd.prog W "math/bits.deBruijn64tab" .u8 Yu) : Kt W := fun i hi =>
  h.cell (show Tryd.prog.globalNamed "math/bits.deBruijn64tab" = some 1 by kernel_rfl) i (by simpa [Yu] using hi)
theorem mixed : Tryd.prog.follows .mixedOrders = true := by kernel_rfl
theorem QoI : (Tryd.prog.funcs.all fun fn => !fn.body.isSome || !(fn.name == "runtime.NumGoroutine")) = true := by kernel_rfl
theorem QeV : Rf Tryd.prog := by
  intro f fn hf hb
  have h := QoI
  rw [Array.all_eq_true_iff_forall_mem] at h
  have := h fn (Array.mem_of_getElem? hf)
  simpa [hb] using this
theorem QfY : ∀ (l : List (Nat × (List V → Qa → Option (Out × Qa)))) (f : Nat) (g : List V → Qa → Option (Out × Qa)),GM l f = some g → (f,g) ∈ l
  | [],f,g,h => by cases h
  | (i,g') :: r,f,g,h => by
    unfold GM at h
    split at h
    · rename_i he
      injection h with h
      subst h
      have := Nat.eq_of_beq_eq_true he
      subst this
      exact List.mem_cons_self
    · exact List.mem_cons_of_mem _ (QfY r f g h)
set_option maxHeartbeats 1000000 in
theorem Qlm (w : World) : Calls Tryd.prog 93 #[.int .u64 0] w fun e w' => e = .returned (.int .i64 64) ∧ w' = w := by
  go_enter Tryd.func93,Tryd.ntmps93
  go_wp2
  go_ret
  exact ⟨rfl,rfl⟩
set_option maxHeartbeats 1000000 in
theorem Qlr (x : Int) (k idx : Nat) (w : World) (hx0 : (x == 0) = false)
    (key : IntKind.u64.wrap (bits BinOp.and IntKind.u64 x (IntKind.u64.wrap (-x)) * 285870213051353865) / 288230376151711744 = (idx : Int))
    (hi : idx < 64) (hk : k < 64) (hcell : w.cell? ⟨1,idx,none⟩ = some (.int .u8 k)) :
    Calls Tryd.prog 93 #[.int .u64 x] w fun e w' => e = .returned (.int .i64 k) ∧ w' = w := by
  go_enter Tryd.func93,Tryd.ntmps93
  go_wp2_with (simp only [key])
  go_ret
  exact ⟨rfl,rfl⟩
theorem QiT (x : Int) (w : World) (h0 : 0 ≤ x) (h1 : x ≤ 18446744073709551615) (hT : Lib.TabIs Tryd.prog w "math/bits.deBruijn64tab" .u8 Yu) :
    Calls Tryd.prog 93 #[.int .u64 x] w fun e w' => e = .returned (.int .i64 (if x = 0 then 64 else Yu.getD (Yd x).toNat 0)) ∧ Below w.heap.size w w' := by
  by_cases hx : x = 0
  · subst hx
    refine (Qlm w).mono fun e w' he => ?_
    obtain ⟨rfl,rfl⟩ := he
    exact ⟨rfl,Below.refl _ _⟩
  · have hlo : 0 ≤ Yd x ∧ Yd x < 64 := by
      unfold Yd
      rw [Int.fdiv_eq_ediv_of_nonneg _ (by omega),IntKind.wrap_u64]
      omega
    have hi : (Yd x).toNat < 64 := by omega
    have ht : ∀ i,i < 64 → ∃ k : Nat,k < 64 ∧ Yu.getD i 0 = k := by decide
    obtain ⟨k,hk,hv⟩ := ht _ hi
    have hc := hT.cell (show Tryd.prog.globalNamed "math/bits.deBruijn64tab" = some 1 by kernel_rfl) (Yd x).toNat (by simpa [Yu] using hi)
    rw [hv] at hc
    rw [if_neg hx,hv]
    refine (Qlr x k (Yd x).toNat w (by simpa using hx) ?_ hi hk hc).mono fun e w' he => ?_
    · rw [show ((Yd x).toNat : Int) = Yd x by omega]
      unfold Yd
      rw [Int.fdiv_eq_ediv_of_nonneg _ (by omega),Int.zero_sub]
      rfl
    · obtain ⟨rfl,rfl⟩ := he
      exact ⟨rfl,Below.refl _ _⟩
theorem QoF : Mod tabs Tryd.prog 63 (iRd Lx) := by
  refine L5 (fun args H v hv S uargs hH hS hA => ?_) (enters Tryd.func63 (by kernel_rfl) (by kernel_rfl))
  unfold Lx at hv
  split at hv
  · injection hv with hv
    subst hv
    obtain ⟨u,u',rfl,hu,hu'⟩ := hA.two
    obtain ⟨b1,rfl,rfl⟩ := Lo hu
    obtain ⟨b2,rfl,rfl⟩ := Lo hu'
    refine (Tryd.strings_Compare b1 b2 S.w).mono fun e w' he => ?_
    obtain ⟨rfl,rfl⟩ := he
    exact ⟨_,rfl,Below.refl _ _,fun S' _ => .int _ _⟩
  · cases hv
theorem Qnx {S : Ctx} {a b c d : Int} {u : Value} (h : Rel S (.agg [.int .u64 a,.int .u64 b,.int .u64 c,.int .u64 d]) u) : u = .agg #[.int .u64 a,.int .u64 b,.int .u64 c,.int .u64 d] := by
  cases h with
  | agg _ us hl h2 =>
    have g : ∀ j (hj : j < 4),∃ u,us[j]? = some u := fun j hj => ⟨us[j]'(by rw [hl]; exact hj),Array.getElem?_eq_getElem _⟩
    obtain ⟨u0,e0⟩ := g 0 (by omega)
    obtain ⟨u1,e1⟩ := g 1 (by omega)
    obtain ⟨u2,e2⟩ := g 2 (by omega)
    obtain ⟨u3,e3⟩ := g 3 (by omega)
    have r0 := ZQ (h2 0 _ _ rfl e0)
    have r1 := ZQ (h2 1 _ _ rfl e1)
    have r2 := ZQ (h2 2 _ _ rfl e2)
    have r3 := ZQ (h2 3 _ _ rfl e3)
    subst r0; subst r1; subst r2; subst r3
    congr 1
    apply Array.ext_getElem?
    intro j
    match j with
    | 0 => simpa using e0
    | 1 => simpa using e1
    | 2 => simpa using e2
    | 3 => simpa using e3
    | j + 4 => rw [Array.getElem?_eq_none (by rw [hl]; simp)]; simp
theorem Qa7 : ∀ {L : List (Int × Int)} {i : Nat} {x : Int × Int},L[i]? = some x → (Y3 L)[i * 2 + 0]? = some (.int .i64 x.1) ∧ (Y3 L)[i * 2 + 1]? = some (.int .i64 x.2)
  | [],i,x,h => by simp at h
  | y :: L,0,x,h => by
    simp at h
    subst h
    exact ⟨rfl,rfl⟩
  | y :: L,i + 1,x,h => by
    obtain ⟨h1,h2⟩ := Qa7 (L := L) (i := i) (by simpa using h)
    have e : Y3 (y :: L) = [.int .i64 y.1,.int .i64 y.2] ++ Y3 L := rfl
    rw [e,show (i + 1) * 2 + 0 = (i * 2 + 0) + 2 by omega,show (i + 1) * 2 + 1 = (i * 2 + 1) + 2 by omega]
    exact ⟨by simpa using h1,by simpa using h2⟩
theorem Qm6 (L : List (Int × Int)) : Q1 (L.map fun x => V.agg [.int .i64 x.1,.int .i64 x.2]) = true := by
  induction L with
  | nil => rfl
  | cons x L ih => simp only [List.map_cons,Q1,V.clean,ih,Bool.and_self]
theorem Qn5 {S : Ctx} (hS : Sim tabs S) {W' : World} (hg : Grew S.w W') {v : Value} {L : List (Int × Int)} (h : W'.ownsRow S.w.heap.size 84 2 v L.length (Y3 L)) :
    Rel (S.at W') (.vs (L.map fun x => .agg [.int .i64 x.1,.int .i64 x.2])) v := by
  obtain ⟨hlen,h⟩ := h
  rcases h with ⟨rfl,h0⟩ | ⟨g,cap,cur,rfl,hbg,hcell,hcap,_,hsz,hcs⟩
  · have : L = [] := List.eq_nil_of_length_eq_zero h0
    subst this
    exact .vs [] none 0 0 0 0 0 (fun _ => .nilFunc) rfl (Nat.le_refl _) rfl (fun h => absurd rfl h) (by simp) (by simp) (by simp)
  · have hlt : g < W'.heap.size := (Array.getElem?_eq_some_iff.1 hcell).1
    have Qh : ∀ k,k < L.length * 2 → W'.cell? ⟨g,0 + k,none⟩ = (Y3 L)[k]? := fun k hk => by
      simp only [World.cell?,hcell,Nat.zero_add]
      rw [← hcs,List.getElem?_take_of_lt hk]
      simp
    have hat : ∀ (i : Nat) (x : V) (j : Nat) (y : V),(L.map fun x => V.agg [.int .i64 x.1,.int .i64 x.2])[i]? = some x → x.cells[j]? = some y → ∃ n,y = .int .i64 n ∧ W'.cell? ⟨g,0 + (i * 2 + j),none⟩ = some (.int .i64 n) := fun i x j y hi hj => by
      rw [List.getElem?_map] at hi
      obtain ⟨z,hz,rfl⟩ := Option.map_eq_some_iff.1 hi
      have hil := (List.getElem?_eq_some_iff.1 hz).1
      obtain ⟨q1,q2⟩ := Qa7 hz
      match j with
      | 0 => simp [V.cells] at hj; subst hj; exact ⟨_,rfl,by rw [Qh _ (by omega)]; exact q1⟩
      | 1 => simp [V.cells] at hj; subst hj; exact ⟨_,rfl,by rw [Qh _ (by omega)]; exact q2⟩
      | j + 2 => simp [V.cells] at hj
    refine .vs _ _ _ _ g 0 2 (fun k => (W'.cell? ⟨g,0 + k,none⟩).getD .nilFunc) (by simp) hcap (Qm6 L) (fun _ => ⟨rfl,⟨?_,?_⟩,hlt⟩) (fun i x hi => ?_) (fun i x j y hi hj => ?_) fun i x j y hi hj => ?_
    · rintro ⟨i,hi,e⟩
      have := hS.lt (show S.live i from hi)
      have e : S.ρ i = g := e
      omega
    · intro hz
      have := hS.zlt g hz
      omega
    · rw [List.getElem?_map] at hi
      obtain ⟨z,hz,rfl⟩ := Option.map_eq_some_iff.1 hi
      rfl
    · obtain ⟨n,_,e⟩ := hat i x j y hi hj
      show W'.cell? _ = _
      rw [e]; rfl
    · obtain ⟨n,rfl,e⟩ := hat i x j y hi hj
      simp only [e,Option.getD_some]
      exact .int _ _
theorem QqQ : Mod tabs Tryd.prog 84 (iRd NI) := by
  intro args H r H' hm S uargs hH hS hA
  refine ⟨enters Tryd.func84 (by kernel_rfl) (by kernel_rfl) _ _,?_⟩
  unfold iRd at hm
  obtain ⟨v,h1,h2⟩ := Option.map_eq_some_iff.1 hm
  injection h2 with h2 h3
  subst h2; subst h3; subst hH
  unfold NI at h1
  split at h1
  · rename_i a b c d
    split at h1
    · rename_i hw
      injection h1 with h1
      subst h1
      obtain ⟨u,rfl,hu⟩ := hA.one
      obtain rfl := Qnx hu
      simp only [Uq,Bool.and_eq_true,decide_eq_true_eq] at hw
      obtain ⟨⟨⟨a1,b1⟩,c1⟩,d1⟩ := hw
      obtain ⟨w0,rfl⟩ : ∃ n : Nat,a = n := ⟨a.toNat,by omega⟩
      obtain ⟨w1,rfl⟩ : ∃ n : Nat,b = n := ⟨b.toNat,by omega⟩
      obtain ⟨w2,rfl⟩ : ∃ n : Nat,c = n := ⟨c.toNat,by omega⟩
      obtain ⟨w3,rfl⟩ : ∃ n : Nat,d = n := ⟨d.toNat,by omega⟩
      simp only [Int.toNat_natCast]
      have hlen : (Zi [w0,w1,w2,w3] 4).length ≤ 256 := by
        rw [X7.S4.allB_eq (s := ⟨w0,w1,w2,w3⟩)]
        simpa using X7.S4.bytes_len ⟨w0,w1,w2,w3⟩
      have ht := hS.tab 1 _ (.inr ⟨rfl,rfl⟩)
      refine (callsIn_wide.1 (QkP Fence.wide 3 trivial trivial trivial trivial rfl (Nat.le_refl _) w0 w1 w2 w3 (by omega) (by omega) (by omega) (by omega) hlen S.w ht.2.1 (QpD (QeM hS)))).mono fun e W' he => ?_
      obtain ⟨v,rfl,how,hb⟩ := he
      have hg := KT hb
      exact ⟨S.at W',⟨rfl,rfl,rfl,Ju hS hg,Wx hS hg,Bd.refl _ _⟩,Qn5 hS hg how⟩
    · cases h1
  · cases h1
set_option maxHeartbeats 1000000 in
theorem QkM {call : Qr} (hcall : ZI tabs Tryd.prog call) : Mod tabs Tryd.prog 64 (Ua 81 call) := by
  intro args H r H' hm S uargs hH hS hA
  subst hH
  refine ⟨enters Tryd.func64 (by kernel_rfl) (by kernel_rfl) _ _,?_⟩
  unfold Ua at hm
  split at hm
  · rename_i x
    obtain ⟨t,ht,h2⟩ := Option.bind_eq_some_iff.1 hm
    split at h2
    · rename_i hlen
      simp only [Option.some.injEq,Prod.mk.injEq] at h2
      obtain ⟨rfl,rfl⟩ := h2
      obtain ⟨u,rfl,hu⟩ := hA.one
      have hu := Gq hu
      obtain ⟨k,a0,a1,a2,a3,ks,hx⟩ := NX ht
      have hua : ∃ p n cap,u = .agg #[.int .i64 k,.int .u64 a0,.int .u64 a1,.int .u64 a2,.int .u64 a3,.slice p n cap] := by
        rw [hx] at hu
        obtain ⟨p,n,cap,e,_⟩ := Xi hu
        exact ⟨p,n,cap,e⟩
      obtain ⟨p,n,cap,rfl⟩ := hua
      generalize x.nrm = y at ht hu hx
      have hcl : y.clean = true := by
        subst hx
        obtain ⟨p2,n2,cap2,_,hks⟩ := Xi hu
        have : Q1 ks = true := by cases hks; assumption
        simp only [V.clean,Q1,this,Bool.and_self]
      clear hx
      have hw := fun (w : World) (b : Nat) (hbw : Below S.w.heap.size S.w w) (hBb : S.w.heap.size ≤ b) (hI : Lib.IsBuilderF 88 5 S.w.heap.size b (Lib.byteCells []) w) => Uo hcall hS rfl 900000000000 y t ht hcl _ hu [] w b hbw hBb hI (by simpa using hlen)
      have hI0 : ∀ o,Lib.IsBuilderF 88 5 S.w.heap.size (S.w.heap.size + 1) [] ((S.w.alloc o).alloc (.cells #[.pointer none,.slice none 0 0] 88)) := fun o =>
        Lib.IsBuilderF.of (.inl ⟨by omega,.slice none 0 0,by have := heap_alloc_new (S.w.alloc o) (.cells #[.pointer none,.slice none 0 0] 88); simpa using this,World.ownsRow_nil _ _ _ _,by simp [Value.ownBlock]⟩)
      have hb0 : ∀ o o',Below S.w.heap.size S.w ((S.w.alloc o).alloc o') := fun o o' => ((Below.refl S.w.heap.size S.w).alloc (o := o) (Nat.le_refl _)).alloc (by simp) _
      simp only [List.nil_append] at hw
      generalize hB : S.w.heap.size = B at hw hI0 hb0
      clear hu
      suffices hh : Calls Tryd.prog 64 #[.agg #[.int .i64 k,.int .u64 a0,.int .u64 a1,.int .u64 a2,.int .u64 a3,.slice p n cap]] S.w fun e w' => e = .returned (.string ⟨t.toArray⟩) ∧ Below B S.w w' by
        refine hh.mono fun e w' he => ?_
        obtain ⟨rfl,hb⟩ := he
        subst hB
        have hg := KT hb
        exact ⟨S.at w',⟨rfl,rfl,rfl,Ju hS hg,Wx hS hg,Bd.refl _ _⟩,GB _ _⟩
      go_enter Tryd.func64,Tryd.ntmps64
      go_wp2_with (go_at_call 73; refine (hw _ (B + 1) (hb0 _ _) (Nat.le_succ _) (hI0 _)).mono ?_)
      rintro e w1 ⟨rfl,i1,b1⟩
      go_wp2_with (go_at_call 74; refine (Tryd.Builder_String_any_k B (B + 1) t w1 i1 (by have := b1.size; omega)).mono ?_)
      rintro e w2 ⟨rfl,i2,b2,_⟩
      go_wp2
      go_ret
      exact ⟨rfl,b1.trans b2⟩
    · cases h2
  · cases hm
theorem Qa6 {S : Ctx} {v v' v'' : V} {us : Array Value} (h : RelA S [v,v',v''] us) : ∃ u u' u'',us = #[u,u',u''] ∧ Rel S v u ∧ Rel S v' u' ∧ Rel S v'' u'' := by
  have h2 := h.size
  simp at h2
  refine ⟨us[0],us[1],us[2],?_,h.get 0 v us[0] rfl (by simp [h2]),h.get 1 v' us[1] rfl (by simp [h2]),h.get 2 v'' us[2] rfl (by simp [h2])⟩
  apply Array.ext (by simp [h2])
  intro i hi hj
  match i with
  | 0 => rfl
  | 1 => rfl
  | 2 => rfl
  | i + 3 => simp at hj; omega
theorem M7 {S : Ctx} {w : World} {g : Nat} {cells : Array Value} {e : TypeId} {cs xs : List V} {us : List Value} (hw : w.heap[g]? = some (.cells cells e (0,0))) (hc : Zk S cs cells) (hx : RelA S xs us.toArray) (hs : Qv xs = true)
    {off : Nat} (hle : off + xs.length ≤ cs.length) (hl : cs.length ≤ cells.size) :
    Written w (w.setCells g off us) g ∧ ∃ cells',(w.setCells g off us).heap[g]? = some (.cells cells' e (0,0)) ∧ cells'.size = cells.size ∧ Zk S (splice cs off xs) cells' := by
  have hone := Uu hx hs
  have hxs : us.length = xs.length := by simpa using hx.size
  obtain ⟨w',cells',r1,r2,r3,r4,r5⟩ := N6 (P := Tryd.prog) hw (E7 _) off us 0 w cells hw (E7 _) (by simpa using hone) (by omega)
  have h2 := run_storeCells_cells (P := Tryd.prog) g off us 0 w (fun j hj => by simp [World.cell?,hw]; omega) (fun j hj => by simp [World.frozen?,hw]) (by simpa using hone)
  rw [r1] at h2
  simp only [Nat.add_zero] at h2
  injection h2 with _ h2
  rw [← h2]
  exact ⟨r2,cells',r3,r4,GK hc hx hle (by simpa using r5)⟩
theorem Written.two {w w1 w2 : World} {c : Nat} (h : Written w w1 c) (k : Written w1 w2 c) : Written w w2 c :=
  ⟨k.size.trans h.size,fun d hd => (k.old d hd).trans (h.old d hd),k.os.trans h.os,k.tape.trans h.tape,k.output.trans h.output⟩
theorem Qe6 {S : Ctx} {a b : List V} {c : Array Value} (h : Zk S (a ++ b) c) : Zk S a c := fun j x hj =>
  h j x (by rw [List.getElem?_append_left (List.getElem?_eq_some_iff.1 hj).1]; exact hj)
theorem Qd3 {S : Ctx} {a : List V} {c : Array Value} {k : Nat} (h : Zk S a c) (hl : a.length + k ≤ c.size) : Zk S (a ++ List.replicate k .junk) c := fun j x hj => by
  rw [List.getElem?_append] at hj
  split at hj
  · exact h j x hj
  · rename_i hge
    have hk := (List.getElem?_eq_some_iff.1 hj).1
    rw [List.length_replicate] at hk
    rw [List.getElem?_replicate,if_pos hk] at hj
    injection hj with hj
    subst hj
    exact ⟨_,Array.getElem?_eq_getElem (show j < c.size by omega),.junk _⟩
theorem QlS {S : Ctx} (c : Array Value) : Zk S (List.replicate c.size .junk) c := by
  have := Qd3 (S := S) (a := []) (c := c) (k := c.size) (fun j x hj => by simp at hj) (by simp)
  simpa using this
theorem Qiq {w w1 w' : World} {o o' : Obj} (h1 : Pushed w w1 o) (h2 : Written w1 w' w.heap.size) (h3 : w'.heap[w.heap.size]? = some o') : Pushed w w' o' := by
  refine ⟨?_,h2.os.trans h1.os,h2.tape.trans h1.tape,h2.output.trans h1.output⟩
  apply Array.ext_getElem?
  intro d
  by_cases hd : d = w.heap.size
  · subst hd; rw [h3]; simp
  · rw [h2.old d hd,h1.heap,Array.getElem?_push,Array.getElem?_push,if_neg hd,if_neg hd]
theorem Xt {S : Ctx} {x : List V} {u : Value} (h : Rel S (.vs [.agg x]) u) (hxl : x.length = 6) (hxs : Qv x = true) (hS : Sim tabs S) :
    ∃ (c off vc : Nat) (U : List Value),u = .slice (some ⟨c,off,none⟩) 1 vc ∧ S.free c ∧ U.length = 6 ∧ RelA S x U.toArray ∧ (∀ v ∈ U,v.oneCell' = true) ∧ (∀ j v,U[j]? = some v → S.w.cell? ⟨c,off + j,none⟩ = some v) ∧ (∃ tA kA,S.w.shape? c = some (tA,kA) ∧ kA ≠ 0) ∧ QX x = 0 := by
  cases h with
  | vs _ a m vc c off sz us hm hvc hcl ha hsz h1 h2 =>
  subst hm
  obtain ⟨rfl,hfc,hclt⟩ := ha (by simp)
  have hsz6 : sz = 6 := by rw [← hsz 0 _ rfl]; exact hxl
  subst hsz6
  have hxr : RelA S x ((List.range 6).map us).toArray := by
    refine ⟨by simp [hxl],fun j y u hy hu => ?_⟩
    have hj : j < 6 := by rw [← hxl]; exact (List.getElem?_eq_some_iff.1 hy).1
    have := h2 0 _ j y rfl hy
    simp [hj] at hu
    subst hu
    simpa using this
  refine ⟨c,off,vc,(List.range 6).map us,rfl,hfc,by simp,hxr,Uu hxr hxs,fun j v hj => ?_,?_,?_⟩
  · have hj6 : j < 6 := by have := (List.getElem?_eq_some_iff.1 hj).1; simpa using this
    rw [List.getElem?_map] at hj
    obtain ⟨k,hk,rfl⟩ := Option.map_eq_some_iff.1 hj
    rw [List.getElem?_range (by have := (List.getElem?_eq_some_iff.1 hk).1; simpa using this)] at hk
    injection hk with hk
    subst hk
    have := h1 0 (.agg x) j (x[j]'(by omega)) rfl (List.getElem?_eq_getElem (show j < x.length by omega))
    simpa using this
  · have h0 := h1 0 (.agg x) 0 (x[0]'(by omega)) rfl (List.getElem?_eq_getElem (show 0 < x.length by omega))
    unfold World.cell? at h0
    simp only at h0
    split at h0
    · rename_i cc ee ff hcc
      refine ⟨ee,cc.size,by simp [World.shape?,hcc],fun e0 => ?_⟩
      have := (Array.getElem?_eq_some_iff.1 h0).1
      omega
    · cases h0
  · have h0 : (V.agg x).clean = true := by simpa [Q1] using hcl
    exact Qoi (by simpa [V.clean] using h0)
theorem QfL {S : Ctx} {g n cap c off vc : Nat} {cells : Array Value} {el : TypeId} {x csE : List V} {U : List Value} (q2 : S.w.heap[g]? = some (.cells cells el (0,0))) (q3 : cells.size = cap * 6) (hn : n ≤ 1000000000000) (hcap1 : n + 1 ≤ cap)
    (g5 : Zk S csE cells) (hlE : csE.length ≤ cells.size) (hroom : (n + 1) * 6 ≤ csE.length) (hsc : Qv (csE.take (n * 6)) = true) (hxr : RelA S x U.toArray) (hxs : Qv x = true) (hxl : x.length = 6) (hul : U.length = 6)
    (hxc : ∀ j v,U[j]? = some v → S.w.cell? ⟨c,off + j,none⟩ = some v) (hne : c ≠ g) (hsh : ∃ tA kA,S.w.shape? c = some (tA,kA) ∧ kA ≠ 0) :
    Calls Tryd.prog 45 #[.slice (some ⟨g,0,none⟩) n cap,.int .i64 0,.slice (some ⟨c,off,none⟩) 1 vc] S.w fun e w' =>
      e = .returned (.slice (some ⟨g,0,none⟩) (n + 1) cap) ∧ Written S.w w' g ∧ ∃ cells',w'.heap[g]? = some (.cells cells' el (0,0)) ∧ cells'.size = cells.size ∧ Zk S (x ++ csE.take (n * 6) ++ csE.drop ((n + 1) * 6)) cells' := by
  obtain ⟨tA,kA,hsa,hkA⟩ := hsh
  have h1x := Uu hxr hxs
  have h1x' : ∀ v ∈ U,v.oneCell' = true := by simpa using h1x
  have htl : (csE.take (n * 6)).length = n * 6 := by rw [List.length_take]; omega
  by_cases hn0 : n = 0
  · subst hn0
    have key := QkK g cap c off vc cells el S.w q2 q3 (by omega) (by omega) U hxc hul h1x' hne
    obtain ⟨t1,cells',t2,t3,t4⟩ := M7 (off := 0) q2 g5 hxr hxs (by omega) hlE
    refine key.mono fun e w' he => ?_
    obtain ⟨rfl,rfl⟩ := he
    refine ⟨rfl,t1,cells',t2,t3,?_⟩
    have : splice csE 0 x = x ++ csE.take (0 * 6) ++ csE.drop ((0 + 1) * 6) := by
      unfold splice
      simp [hxl]
    rw [← this]; exact t4
  · obtain ⟨oldc,hold⟩ : ∃ o,o = cells.toList.take (n * 6) := ⟨_,rfl⟩
    have hor : RelA S (csE.take (n * 6)) oldc.toArray := by
      subst hold
      refine ⟨by simp; omega,fun j y u hy hu => ?_⟩
      rw [List.getElem?_take] at hy
      split at hy
      · rename_i hlt
        obtain ⟨u',k1,k2⟩ := g5 j y hy
        simp [List.getElem?_take,hlt,k1] at hu
        subst hu; exact k2
      · simp at hy
    have h1o := Uu hor hsc
    have key := Qm0 g n cap c off vc cells el S.w q2 q3 (by omega) hcap1 (by omega) U oldc hxc hul h1x' hne hold.symm (by simpa using h1o) tA kA hsa hkA
    obtain ⟨t1,cells1,t2,t3,t4⟩ := M7 (w := S.w.drew) (off := 6) (us := oldc) q2 g5 hor hsc (by omega) hlE
    have hl1 : (splice csE 6 (csE.take (n * 6))).length = csE.length := VI (by omega)
    obtain ⟨v1,cells2,v2,v3,v4⟩ := M7 (off := 0) (us := U) t2 t4 hxr hxs (by omega) (by omega)
    refine key.mono fun e w' he => ?_
    obtain ⟨rfl,rfl⟩ := he
    refine ⟨rfl,Written.two (Written.two (w1 := S.w.drew) ⟨rfl,fun _ _ => rfl,rfl,rfl,rfl⟩ t1) v1,cells2,v2,v3.trans t3,?_⟩
    have : splice (splice csE 6 (csE.take (n * 6))) 0 x = x ++ csE.take (n * 6) ++ csE.drop ((n + 1) * 6) := by
      have h6 : (csE.take 6).length = 6 := by rw [List.length_take]; omega
      unfold splice
      rw [htl,hxl]
      simp only [List.take_zero,List.nil_append,Nat.zero_add]
      rw [List.append_assoc,List.append_assoc,List.drop_append_of_le_length (by omega),List.drop_of_length_le (by omega),List.nil_append,show (n + 1) * 6 = 6 + n * 6 by omega]
    rw [← this]; exact v4
theorem Qiv : Mod tabs Tryd.prog 45 WC := by
  intro args H r H' hm S uargs hH hS hA
  subst hH
  refine ⟨enters Tryd.func45 (by kernel_rfl) (by kernel_rfl) _ _,?_⟩
  unfold WC at hm
  split at hm
  · rename_i i ver n x
    split at hm
    · rename_i vv cs hg
      split at hm
      · rename_i hc
        obtain ⟨rfl,hxl,hxs,hsc,hn⟩ := hc
        obtain ⟨u,u',u'',rfl,hu,hu',hu''⟩ := Qa6 hA
        obtain rfl := ZQ hu'
        obtain ⟨c,off,vc,U,rfl,hfc,hul,hxr,h1x,hxc,hsh,hxm⟩ := Xt hu'' hxl hxs hS
        cases hu with
        | rs _ _ _ _ _ ad cap hi hcap hh =>
        obtain ⟨_,e1⟩ := hh ver (by simp [QI,hg,Q6])
        obtain ⟨ag2,cs2,cells,el,fr,q1,q2,q3,q4⟩ := e1 rfl
        clear e1 hh
        rw [hg] at q1; injection q1 with q1; injection q1 with _ _ q0 q1; subst q0; subst q1
        obtain ⟨cells',el',fr',g1,g2,g3,g4,g5⟩ := hS.blk i _ hg
        rw [q2] at g1; injection g1 with g1; injection g1 with g1 g1' g1''; subst g1; subst g1'; subst g1''
        have hfr := g4.2 rfl
        subst hfr
        have hli : S.live i := JM hg rfl
        simp only [Nat.zero_add] at q3
        have hne : c ≠ S.ρ i := fun e => hfc.1 ⟨i,hli,e.symm⟩
        split at hm
        ·
          rename_i hroom
          simp only [Option.some.injEq,Prod.mk.injEq] at hm
          obtain ⟨rfl,rfl⟩ := hm
          have hcap1 : n + 1 ≤ cap := by omega
          have had := q4 (by omega)
          simp only [Nat.zero_mul] at had
          subst had
          refine (QfL q2 q3 hn hcap1 g5 g2 hroom hsc hxr hxs hxl hul hxc hne hsh).mono fun e w' he => ?_
          obtain ⟨rfl,r2,cells',r3,r4,hcr⟩ := he
          have htl : (cs.take (n * 6)).length = n * 6 := by rw [List.length_take]; omega
          have hCS : (x ++ cs.take (n * 6) ++ cs.drop ((n + 1) * 6)).length = cs.length := by simp only [List.length_append,htl,List.length_drop]; omega
          have hmr : ∀ m,QX cs ≤ m → QX (x ++ cs.take (n * 6) ++ cs.drop ((n + 1) * 6)) ≤ m := fun m hm =>
            BB.2 ⟨BB.2 ⟨by omega,Yk.2 fun y hy => Yk.1 hm y (List.mem_of_mem_take hy)⟩,Yk.2 fun y hy => Yk.1 hm y (List.mem_of_mem_drop hy)⟩
          generalize x ++ cs.take (n * 6) ++ cs.drop ((n + 1) * 6) = CS at hCS hcr hmr
          have hshape : sameShape S.w w' (S.ρ i) (.row ver 6 true cs) (.row ver 6 true CS) := fun v sz ag cs2 eb => by
            simp at eb; obtain ⟨rfl,rfl,rfl,rfl⟩ := eb
            exact ⟨⟨_,rfl⟩,fun cells2 e2 fr2 q => by rw [q2] at q; injection q with q; injection q with q; subst q; exact ⟨cells',el,(0,0),r3,r4⟩⟩
          have hxe := V0 hS (b' := .row ver 6 true CS) hg rfl rfl r2 hshape
          refine ⟨S.put i _ w',⟨rfl,rfl,rfl,hxe,BK hS hg rfl rfl r2 hshape ⟨cells',el,(0,0),r3,by rw [hCS,r4]; exact g2,g3,by rw [r4]; exact g4,hcr.mono hxe⟩,Bd.set (.inr fun m hm hb => hmr m (hb _ hg))⟩,?_⟩
          refine .rs _ _ _ _ _ _ _ (by simpa [Ctx.put] using hi) hcap1 fun v hv => ?_
          have hv' : v = ver := by simpa [Ctx.put,QI,Yf _ hi,Q6] using hv.symm
          subst hv'
          exact ⟨Nat.le_refl _,fun _ => ⟨true,_,cells',el,(0,0),by simp only [Ctx.put]; rw [Yf _ hi],r3,by rw [r4]; simpa using q3,fun _ => by simp [Ctx.put]⟩⟩
        · rename_i hroom
          split at hm
          · rename_i hlen
            simp only [Option.some.injEq,Prod.mk.injEq] at hm
            obtain ⟨rfl,rfl⟩ := hm
            have htk : cs.take (n * 6) = cs := List.take_of_length_le (by omega)
            rw [htk] at hsc
            have hcl : (x ++ cs).length = (n + 1) * 6 := by rw [List.length_append]; omega
            have href : ∀ m,QX cs ≤ m → QX (x ++ cs) ≤ m := fun m hm => BB.2 ⟨by omega,hm⟩
            by_cases hneed : n + 1 ≤ cap
            ·
              have had := q4 (by omega)
              simp only [Nat.zero_mul] at had
              subst had
              have hE : Zk S (cs ++ List.replicate 6 .junk) cells := Qd3 g5 (by omega)
              have hEl : (cs ++ List.replicate 6 V.junk).length = (n + 1) * 6 := by simp; omega
              have hEt : (cs ++ List.replicate 6 V.junk).take (n * 6) = cs := by rw [← hlen,List.take_left']; rfl
              refine (QfL q2 q3 hn hneed hE (by omega) (by omega) (by rw [hEt]; exact hsc) hxr hxs hxl hul hxc hne hsh).mono fun e w' he => ?_
              obtain ⟨rfl,r2,cells',r3,r4,hcr⟩ := he
              rw [hEt] at hcr
              have hcr := Qe6 hcr
              have hxe := LN hS (b' := .row (ver + 1) 6 true (x ++ cs)) hg rfl rfl (Nat.lt_succ_self _) r2
              refine ⟨S.put i _ w',⟨rfl,rfl,rfl,hxe,XZ hS hg rfl rfl (Nat.lt_succ_self _) r2 ⟨cells',el,(0,0),r3,by rw [hcl,r4,q3]; exact Nat.mul_le_mul_right _ hneed,g3,by rw [r4]; exact g4,hcr.mono hxe⟩,Bd.set (.inr fun m hm hb => href m (hb _ hg))⟩,?_⟩
              refine .rs _ _ _ _ _ _ _ (by simpa [Ctx.put] using hi) hneed fun v hv => ?_
              have hv' : v = ver + 1 := by simpa [Ctx.put,QI,Yf _ hi,Q6] using hv.symm
              subst hv'
              exact ⟨Nat.le_refl _,fun _ => ⟨true,_,cells',el,(0,0),by simp only [Ctx.put]; rw [Yf _ hi],r3,by rw [r4]; simpa using q3,fun _ => by simp [Ctx.put]⟩⟩
            ·
              have hcn : cap = n := by omega
              subst hcn
              have fin : ∀ (w' : World) (cells' : Array Value) (G : Nat),Pushed S.w w' (.cells cells' 27 (0,0)) → cells'.size = G * 6 → cap + 1 ≤ G → Zk S (x ++ cs) cells' →
                  ∃ S',To tabs S.H.length S S' (Qn S.H i (.row (ver + 1) 6 true (x ++ cs))) w' ∧ Ms S' (.ret (.rs i (ver + 1) 6 0 (cap + 1))) (.returned (.slice (some ⟨S.w.heap.size,0,none⟩) (cap + 1) G)) := by
                intro w' cells' G hp hsize hG hcr
                have hxe := PL hS (b' := .row (ver + 1) 6 true (x ++ cs)) hg rfl rfl (Nat.lt_succ_self _) hp
                refine ⟨S.move i _ _,⟨rfl,rfl,rfl,hxe,T7 hS hg rfl rfl (Nat.lt_succ_self _) hp ⟨_,_,(0,0),hp.new,by rw [hcl,hsize]; exact Nat.mul_le_mul_right _ hG,g3,K4 _,hcr.mono hxe⟩,Bd.set (.inr fun m hm hb => href m (hb _ hg))⟩,?_⟩
                refine .rs _ _ _ _ _ _ _ (by simpa [Ctx.move] using hi) hG fun v hv => ?_
                have hv' : v = ver + 1 := by simpa [Ctx.move,QI,Yf _ hi,Q6] using hv.symm
                subst hv'
                exact ⟨Nat.le_refl _,fun _ => ⟨true,_,_,_,(0,0),by simp only [Ctx.move]; rw [Yf _ hi],by simp only [Ctx.move,upd_same]; exact hp.new,by rw [hsize]; simp,fun _ => by simp [Ctx.move]⟩⟩
              by_cases hn0 : cap = 0
              · subst hn0
                have hcs0 : cs = [] := List.eq_nil_of_length_eq_zero (by omega)
                subst hcs0
                refine (QgE (some ad) c off vc S.w U hxc hul h1x).mono fun e w' he => ?_
                obtain ⟨G,ZS,hG,hsize,rfl,rfl⟩ := he
                refine fin _ _ G (Ns _ _) hsize hG fun j y hj => ?_
                rw [List.append_nil] at hj
                obtain ⟨u,k1,k2⟩ := hxr.cellsRel j y hj
                have hlt := (Array.getElem?_eq_some_iff.1 k1).1
                exact ⟨u,by rw [Array.getElem?_append,if_pos hlt]; exact k1,k2⟩
              · have had := q4 (by omega)
                simp only [Nat.zero_mul] at had
                subst had
                have hor : RelA S cs cells := ⟨by omega,fun j y u hy hu => by
                  obtain ⟨u',k1,k2⟩ := g5 j y hy
                  rw [k1] at hu; injection hu with hu; subst hu; exact k2⟩
                have h1o := Uu hor hsc
                refine (QhJ (S.ρ i) cap c off vc cells el S.w q2 q3 (by omega) hn U cells.toList hxc hul h1x rfl h1o).mono fun e w' he => ?_
                obtain ⟨G,ROW,hG,hRs,rfl,rfl⟩ := he
                have hp0 : Pushed S.w ((S.w.alloc (.cells ROW 27)).drew) (.cells ROW 27 (0,0)) := ⟨rfl,rfl,rfl,rfl⟩
                obtain ⟨t1,cells1,t2,t3,t4⟩ := M7 (off := 0) (us := U) hp0.new (QlS (S := S) ROW) hxr hxs (by rw [List.length_replicate]; omega) (by rw [List.length_replicate]; omega)
                have hl1 : (splice (List.replicate ROW.size V.junk) 0 x).length = ROW.size := by rw [VI (by rw [List.length_replicate]; omega),List.length_replicate]
                obtain ⟨v1,cells2,v2,v3,v4⟩ := M7 (w := (((S.w.alloc (.cells ROW 27)).drew.setCells S.w.heap.size 0 U).drew)) (off := 6) (us := cells.toList) t2 t4 (by simpa using hor) hsc (by omega) (by omega)
                have hw2 : Written ((S.w.alloc (.cells ROW 27)).drew) ((((S.w.alloc (.cells ROW 27)).drew.setCells S.w.heap.size 0 U).drew).setCells S.w.heap.size 6 cells.toList) S.w.heap.size :=
                  Written.two (Written.two t1 (w2 := ((S.w.alloc (.cells ROW 27)).drew.setCells S.w.heap.size 0 U).drew) ⟨rfl,fun _ _ => rfl,rfl,rfl,rfl⟩) v1
                refine fin _ cells2 G (Qiq hp0 hw2 v2) (by rw [v3,t3,hRs]) hG ?_
                have : splice (splice (List.replicate ROW.size V.junk) 0 x) 6 cs = x ++ cs ++ (List.replicate ROW.size V.junk).drop ((cap + 1) * 6) := by
                  generalize List.replicate ROW.size V.junk = J
                  have e1 : splice J 0 x = x ++ J.drop 6 := by
                    unfold splice
                    simp only [List.take_zero,List.nil_append,Nat.zero_add,hxl]
                  rw [e1]
                  unfold splice
                  rw [List.take_left' hxl,hlen,show (cap + 1) * 6 = 6 + cap * 6 by omega,← List.drop_drop,List.drop_left' hxl,List.drop_drop]
                rw [this] at v4
                exact Qe6 v4
          · cases hm
      · cases hm
    · cases hm
  · rename_i x
    split at hm
    · rename_i hc
      obtain ⟨hxl,hxs⟩ := hc
      simp only [Option.some.injEq,Prod.mk.injEq] at hm
      obtain ⟨rfl,rfl⟩ := hm
      obtain ⟨u,u',u'',rfl,hu,hu',hu''⟩ := Qa6 hA
      obtain rfl := ZQ hu'
      obtain ⟨c,off,vc,U,rfl,hfc,hul,hxr,h1x,hxc,hsh,hxm⟩ := Xt hu'' hxl hxs hS
      cases hu with
      | emp a =>
      refine (QgE a c off vc S.w U hxc hul h1x).mono fun e w' he => ?_
      obtain ⟨G,ZS,hG,hsize,rfl,rfl⟩ := he
      have hp := Ns S.w (.cells (U.toArray ++ ZS) 27)
      have hx := Uk hS (b := .row 0 6 true x) hp
      have hcr : Zk S x (U.toArray ++ ZS) := fun j y hj => by
        obtain ⟨u,k1,k2⟩ := hxr.cellsRel j y hj
        have hlt := (Array.getElem?_eq_some_iff.1 k1).1
        exact ⟨u,by rw [Array.getElem?_append,if_pos hlt]; exact k1,k2⟩
      refine ⟨S.push (.row 0 6 true x) _,⟨rfl,rfl,rfl,hx,NK hS hp ⟨_,_,(0,0),hp.new,by rw [hsize]; omega,by omega,K4 _,hcr.mono hx⟩,Bd.push _ _ _⟩,?_⟩
      refine .rs _ _ _ _ _ _ _ (by simp [Ctx.push]) hG fun v hv => ?_
      simp [Ctx.push,QI,Q6] at hv
      exact ⟨by omega,fun _ => ⟨true,x,_,_,(0,0),by simp [Ctx.push,← hv],by simp only [Ctx.push,upd_same]; exact hp.new,by rw [hsize]; simp,fun _ => by simp [Ctx.push]⟩⟩
    · cases hm
  · cases hm
theorem Qpl : Mod tabs Tryd.prog 46 Bu := by
  intro args H r H' hm S uargs hH hS hA
  subst hH
  refine ⟨enters Tryd.func46 (by kernel_rfl) (by kernel_rfl) _ _,?_⟩
  have hgrew : ∀ o,Grew S.w (S.w.alloc o) := fun o => KT ((Below.refl S.w.heap.size S.w).alloc (Nat.le_refl _) _)
  unfold Bu at hm
  split at hm
  · simp only [Option.some.injEq,Prod.mk.injEq] at hm
    obtain ⟨rfl,rfl⟩ := hm
    obtain ⟨u,rfl,hu⟩ := hA.one
    cases hu with
    | vs _ a n cap c off sz us hn hcap hcl ha hsz h1 h2 =>
    simp only [List.length_nil] at hn
    subst hn
    refine (Qi1 a cap S.w).mono fun e w' he => ?_
    obtain ⟨⟨a',rfl⟩,hw⟩ := he
    have hg : Grew S.w w' := by
      rcases hw with rfl | rfl
      · exact Grew.refl _
      · exact hgrew _
    exact ⟨S.at w',⟨rfl,rfl,rfl,Ju hS hg,Wx hS hg,Bd.refl _ _⟩,.emp _⟩
  · rename_i x xs
    split at hm
    · rename_i hc
      obtain ⟨hal,hsc,hn⟩ := hc
      simp only [Option.some.injEq,Prod.mk.injEq] at hm
      obtain ⟨rfl,rfl⟩ := hm
      obtain ⟨u,rfl,hu⟩ := hA.one
      cases hu with
      | vs _ a n cap c off sz us hnn hcap hcl ha hsz h1 h2 =>
      have hlx : (x :: xs).length = xs.length + 1 := rfl
      rw [hlx] at hnn hn
      obtain ⟨rfl,hfc,hclt⟩ := ha (by simp)
      have hx6 : x.cells.length = 6 := by
        simp only [Yz,Bool.and_eq_true,beq_iff_eq] at hal
        exact hal.1
      have hsz6 : sz = 6 := by rw [← hsz 0 _ rfl]; exact hx6
      subst hsz6
      have hfl := E2 hal
      rw [hlx,← hnn] at hfl
      generalize x :: xs = ys at hfl hsc h1 h2 hsz hal hcl
      subst hnn
      have hrel : RelA S (flat ys) ((List.range ((xs.length + 1) * 6)).map us).toArray := by
        refine ⟨by simp [hfl],fun j y u hy hu => ?_⟩
        have hj : j < (xs.length + 1) * 6 := by rw [← hfl]; exact (List.getElem?_eq_some_iff.1 hy).1
        obtain ⟨_,z,hz,hzy⟩ := flat_get hal j y hy
        have := h2 _ z _ y hz hzy
        rw [show j / 6 * 6 + j % 6 = j by omega] at this
        simp [hj] at hu
        subst hu
        exact this
      have hone := Uu hrel hsc
      have hcell : ∀ j v,((List.range ((xs.length + 1) * 6)).map us)[j]? = some v → S.w.cell? ⟨c,off + j,none⟩ = some v := fun j v hj => by
        have hjl : j < (xs.length + 1) * 6 := by have := (List.getElem?_eq_some_iff.1 hj).1; simpa using this
        rw [List.getElem?_map] at hj
        obtain ⟨k,hk,rfl⟩ := Option.map_eq_some_iff.1 hj
        rw [List.getElem?_range hjl] at hk
        injection hk with hk
        subst hk
        obtain ⟨_,z,hz,hzy⟩ := flat_get hal j ((flat ys)[j]'(by omega)) (List.getElem?_eq_getElem _)
        have := h1 _ z _ _ hz hzy
        rwa [show j / 6 * 6 + j % 6 = j by omega] at this
      have hUl : ((List.range ((xs.length + 1) * 6)).map us).length = (xs.length + 1) * 6 := by simp
      generalize (List.range ((xs.length + 1) * 6)).map us = U at hrel hone hcell hUl
      refine (Ql9 c off (xs.length + 1) cap U S.w (by omega) hn hcell hUl (by simpa using hone)).mono fun e w' he => ?_
      obtain ⟨G,ZS,hG,hsize,rfl,rfl⟩ := he
      have hg := hgrew (.cells #[] 27)
      have hS1 := Wx hS hg
      have hx1 := Ju hS hg
      have hp : Pushed (S.at (S.w.alloc (.cells #[] 27))).w ((S.w.alloc (.cells #[] 27)).drew.alloc (.cells (U.toArray ++ ZS) 27)) (.cells (U.toArray ++ ZS) 27) := Ns _ _
      have hx2 := Uk hS1 (b := .row 0 6 true (flat ys)) hp
      have hcr : Zk S (flat ys) (U.toArray ++ ZS) := fun j y hj => by
        obtain ⟨u,k1,k2⟩ := hrel.cellsRel j y hj
        have hlt := (Array.getElem?_eq_some_iff.1 k1).1
        exact ⟨u,by rw [Array.getElem?_append,if_pos hlt]; exact k1,k2⟩
      have hws : (S.w.alloc (.cells #[] 27)).heap.size = S.w.heap.size + 1 := by simp
      refine ⟨(S.at (S.w.alloc (.cells #[] 27))).push (.row 0 6 true (flat ys)) _,⟨rfl,rfl,rfl,hx1.trans hx2,NK hS1 hp ⟨_,_,(0,0),hp.new,by rw [hsize]; omega,by omega,K4 _,(hcr.mono hx1).mono hx2⟩,Bd.push _ _ _⟩,?_⟩
      refine .rs _ _ _ _ _ _ _ (by simp [Ctx.push,Ctx.at]) hG fun v hv => ?_
      simp [Ctx.push,Ctx.at,QI,Q6] at hv
      exact ⟨by omega,fun _ => ⟨true,flat ys,_,_,(0,0),by simp [Ctx.push,Ctx.at,← hv],by simp only [Ctx.push,Ctx.at,upd_same]; exact hp.new,by rw [hsize]; simp,fun _ => by simp [Ctx.push,Ctx.at]⟩⟩
    · cases hm
  · cases hm
theorem Ql8 : ∀ f g,YW.intr f = some g → Mod tabs Tryd.prog f g := by
  intro f g h
  have hm := QfY _ f g h
  simp only [List.mem_cons,List.not_mem_nil,or_false,Prod.mk.injEq] at hm
  rcases hm with ⟨rfl,rfl⟩ | ⟨rfl,rfl⟩ | ⟨rfl,rfl⟩ | ⟨rfl,rfl⟩ | ⟨rfl,rfl⟩ | ⟨rfl,rfl⟩ | ⟨rfl,rfl⟩
  · exact Ql0 (fun n h0 h1 w ht => Tryd.strconv_Itoa n h0 h1 w ht) (fun S hS => QlZ hS) (enters Tryd.func85 (by kernel_rfl) (by kernel_rfl))
  · exact Qql (fun a c sep w => Tryd.strings_Join_none a c sep w) (fun bk o c xs sep w h1 h2 h3 h4 h5 => Tryd.strings_Join bk o c xs sep w h1 h2 h3 h4 h5) (enters Tryd.func86 (by kernel_rfl) (by kernel_rfl))
  · exact Qim (fun x w h0 h1 ht => QiT x w h0 h1 ht) (fun S hS => QeM hS) (enters Tryd.func93 (by kernel_rfl) (by kernel_rfl))
  · exact QoF
  · exact QqQ
  · exact Qiv
  · exact Qpl
theorem Qkz : Vg tabs Tryd.prog D := Qpb mixed QeV
theorem QoD : ∀ f g,YW.orc f = some g → ∀ call,ZI tabs Tryd.prog call → Mod tabs Tryd.prog f (g call) := by
  intro f g h call hcall
  have hm := EN Pf f g h
  simp only [Pf,List.mem_cons,List.not_mem_nil,or_false,Prod.mk.injEq] at hm
  obtain ⟨rfl,rfl⟩ := hm
  exact QkM hcall
theorem Aj : ZI tabs Tryd.prog E := QnE Qkz mixed QeV Ql8 QoD
theorem laidB : laidOutB Tryd.prog = true := by kernel_rfl
theorem ownB : ownKnob Tryd.prog.godebug = none := by kernel_rfl
noncomputable def V6 (os : Os) : World :=
 let w0 := World.holding Tryd.prog os ⟨#[],#[],[]⟩
 let put (h : Array Obj) (g : Nat) (cs : Array Value) : Array Obj := h.modify g fun
  | .cells _ t frozen => .cells cs t frozen
  | o => o
 let h1 := put w0.heap 2 (Lib.pow10Tab.map fun z => Value.int .u64 z).toArray
 let h2 := put h1 3 (Lib.deBruijn32tab.map fun (z : Nat) => Value.int .u8 (z : Int)).toArray
 let h3 := put h2 1 (Yu.map fun z => Value.int .u8 z).toArray
 { w0 with heap := h3 }
def Nc : List (String × DataW Unit) := [("math/bits.deBruijn32tab",Rows.laid_math_bits_deBruijn32tab),("math/bits.deBruijn64tab",Rows.laid_math_bits_deBruijn64tab),("internal/strconv.uint64pow10",Rows.laid_internal_strconv_uint64pow10)]
theorem EH (os : Os) (args : Array Value) : laidMet Tryd.prog Nc ((V6 os).forCall (fun _ _ => 0) ⟨#[],args,[]⟩).memory :=
 laidMet_of_run' 8 (by kernel_rfl) (by kernel_rfl)
theorem X0 : Tryd.prog.globalNamed "internal/strconv.uint64pow10" = some 2 := by kernel_rfl
theorem QeU : Tryd.prog.globalNamed "math/bits.deBruijn64tab" = some 1 := by kernel_rfl
theorem Au {l : List (String × DataW Unit)} (hl : (l.filter fun x => x.2.handleName?.isSome) = []) {W : World} (h : laidMetH Tryd.prog l W) : laidMet Tryd.prog l W := by
 unfold laidMetH at h
 rw [hl] at h
 exact h
theorem Dg {l : List (String × DataW Unit)} {W : World} (h1 : ("internal/strconv.uint64pow10",Lib.tabData .u64 Lib.pow10Tab) ∈ l) (h2 : ("math/bits.deBruijn64tab",Lib.tabData .u8 Yu) ∈ l) (h : laidMet Tryd.prog l W) : Laid tabs W := by
 have t1 := QdC X0 (t := 119) (by kernel_rfl) Tryd.underlying119 Tryd.underlying22 (by kernel_rfl) (by kernel_rfl) h h1
 have t2 := QdC QeU (t := 112) (by kernel_rfl) Tryd.underlying112 Tryd.underlying5 (by kernel_rfl) (by kernel_rfl) h h2
 intro c us hc
 rcases hc with ⟨rfl,rfl⟩ | ⟨rfl,rfl⟩
 ·exact QfU X0 t1
 ·exact QfU QeU t2
theorem Du {l : List (String × DataW Unit)} : ("internal/strconv.uint64pow10",Lib.tabData .u64 Lib.pow10Tab) ∈ Nc ++ l := by
 rw [show (Lib.tabData .u64 Lib.pow10Tab : DataW Unit) = Rows.laid_internal_strconv_uint64pow10 by kernel_rfl]
 simp [Nc]
theorem EZ {l : List (String × DataW Unit)} : ("math/bits.deBruijn64tab",Lib.tabData .u8 Yu) ∈ Nc ++ l := by
 rw [show (Lib.tabData .u8 Yu : DataW Unit) = Rows.laid_math_bits_deBruijn64tab by kernel_rfl]
 simp [Nc]
end Go.Proofs.YtdnmpaielmfiiaaDoor
end
