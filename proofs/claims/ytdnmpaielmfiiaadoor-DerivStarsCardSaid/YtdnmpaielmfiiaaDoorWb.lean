/- Wb: a part of the proof that each law of this seat answers true at every input. No condition. -/
import Derived.Test.YtdnmpaielmfiiaaDoorWf
import Derived.Test.YtdnmpaielmfiiaaDoorShelf
import Derived.Test.YtdnmpaielmfiiaaDoorEvGb
import Derived.BigCall
set_option linter.unusedVariables false
set_option linter.unusedSimpArgs false
set_option maxRecDepth 2000
section
namespace Go.Proofs.YtdnmpaielmfiiaaDoor
open Go Go.Ev Go.RowKit
theorem Qmv {S : Ctx} {v : V} {u : Value} (h : Rel S v u) : RelA S [v] #[u] := ⟨rfl,fun j x y hx hy => by
  match j with
  | 0 => simp at hx hy; subst hx; subst hy; exact h
  | j + 1 => simp at hx⟩
theorem NP {T e : TypeId} {B b : Nat} {bs : List Value} {w w' : World} (hg : Grew w w') (h : Lib.IsBuilderF T e B b bs w) : Lib.IsBuilderF T e B b bs w' := by
  have hk : w.grownBy w' none := ⟨hg.os,hg.tape,hg.output,hg.size,fun k hk _ => hg.old k hk⟩
  have at1 : ∀ p,Lib.BuilderAtF T e B b p bs w → Lib.BuilderAtF T e B b p bs w' := fun p h => by
    have hlt := h.lt
    obtain ⟨hB,v,hb,hown,hne⟩ := h
    exact ⟨hB,v,(hg.old b hlt).trans hb,hown.kept hk (by cases hv : v.ownBlock <;> simp),hne⟩
  exact h.elim (fun x => .inl (at1 _ x)) (fun x => .inr (at1 _ x))
theorem QoN {B : Nat} {a w w' : World} (h : Below B a w) (hB : B ≤ w.heap.size) (hg : Grew w w') : Below B a w' :=
  h.trans ⟨hg.os,hg.tape,hg.output,hg.size,fun k hk => hg.old k (by omega)⟩
theorem AZ {f : V → Option (List UInt8)} {sep : List UInt8} {b : Bool} {x : V} {xs : List V} {r : List UInt8} (h : Jn f sep b (x :: xs) = some r) : ∃ t r',f x = some t ∧ Jn f sep false xs = some r' ∧ r = (if b then [] else sep) ++ t ++ r' := by
  simp only [Jn] at h
  obtain ⟨t,h1,h2⟩ := Option.bind_eq_some_iff.1 h
  obtain ⟨r',h3,h4⟩ := Option.bind_eq_some_iff.1 h2
  simp only [Option.some.injEq] at h4
  exact ⟨t,r',h1,h3,h4.symm⟩
theorem NX {call : Qr} {fS : FuncId} {n : Nat} {x : V} {t : List UInt8} (h : oTx call fS n x = some t) : ∃ k a b c d ks,x = .agg [.int .i64 k,.int .u64 a,.int .u64 b,.int .u64 c,.int .u64 d,.vs ks] := by
  cases n with
  | zero => cases h
  | succ n =>
    simp only [oTx] at h
    split at h
    · exact ⟨_,_,_,_,_,_,rfl⟩
    · cases h
theorem Xi {S : Ctx} {k a b c d : Int} {ks : List V} {u : Value} (h : Rel S (.agg [.int .i64 k,.int .u64 a,.int .u64 b,.int .u64 c,.int .u64 d,.vs ks]) u) : ∃ p n cap,u = .agg #[.int .i64 k,.int .u64 a,.int .u64 b,.int .u64 c,.int .u64 d,.slice p n cap] ∧ Rel S (.vs ks) (.slice p n cap) := by
  cases h with
  | agg _ us hl h2 =>
    have g : ∀ j (hj : j < 6),∃ u,us[j]? = some u := fun j hj => ⟨us[j]'(by rw [hl]; exact hj),Array.getElem?_eq_getElem _⟩
    obtain ⟨u0,e0⟩ := g 0 (by omega)
    obtain ⟨u1,e1⟩ := g 1 (by omega)
    obtain ⟨u2,e2⟩ := g 2 (by omega)
    obtain ⟨u3,e3⟩ := g 3 (by omega)
    obtain ⟨u4,e4⟩ := g 4 (by omega)
    obtain ⟨u5,e5⟩ := g 5 (by omega)
    have r0 := ZQ (h2 0 _ _ rfl e0)
    have r1 := ZQ (h2 1 _ _ rfl e1)
    have r2 := ZQ (h2 2 _ _ rfl e2)
    have r3 := ZQ (h2 3 _ _ rfl e3)
    have r4 := ZQ (h2 4 _ _ rfl e4)
    have r5 := h2 5 _ _ rfl e5
    subst r0; subst r1; subst r2; subst r3; subst r4
    obtain ⟨p,n,cap,rfl⟩ : ∃ p n cap,u5 = .slice p n cap := by cases r5; exact ⟨_,_,_,rfl⟩
    refine ⟨p,n,cap,?_,r5⟩
    congr 1
    apply Array.ext_getElem?
    intro j
    match j with
    | 0 => simpa using e0
    | 1 => simpa using e1
    | 2 => simpa using e2
    | 3 => simpa using e3
    | 4 => simpa using e4
    | 5 => simpa using e5
    | j + 6 => rw [Array.getElem?_eq_none (by rw [hl]; simp)]; simp
set_option maxHeartbeats 4000000 in
set_option maxRecDepth 1000000 in
theorem Uo {call : Qr} (hcall : ZI tabs Tryd.prog call) {S : Ctx} (hS : Sim tabs S) {B : Nat} (hB : S.w.heap.size = B) : ∀ (n : Nat) (x : V) (t : List UInt8),oTx call 81 n x = some t → x.clean = true → ∀ (u : Value),Rel S x u → ∀ (acc : List UInt8) (w : World) (b : Nat),Below B S.w w → B ≤ b →
    Lib.IsBuilderF 88 5 B b (Lib.byteCells acc) w → acc.length + t.length ≤ 100000000000000 →
    Calls Tryd.prog 73 #[.pointer (some ⟨b,0,none⟩),u] w fun e w' => e = .returned (.tuple #[]) ∧ Lib.IsBuilderF 88 5 B b (Lib.byteCells (acc ++ t)) w' ∧ Below B S.w w'
  | 0,x,t,h,_,_,_,_,_,_,_,_,_,_ => by cases h
  | n + 1,x,t,h,hcl,u,hr,acc,w,b,hbw,hBb,hI,hle => by
    obtain ⟨k,a0,a1,a2,a3,ks,rfl⟩ := NX h
    obtain ⟨p,m,cap,rfl,hks⟩ := Xi hr
    have hBw : B ≤ w.heap.size := by have := hbw.size; omega
    have hI1 := fun o => NP (KT ((Below.refl _ w).alloc (Nat.le_refl _) o)) hI
    have hbne : w.heap.size ≠ b := by have : b < w.heap.size := hI.elim (fun x => x.lt) (fun x => x.lt); omega
    simp only [oTx] at h
    by_cases k0 : k = 0
    · subst k0
      simp only [if_true,Option.some.injEq] at h
      subst h
      go_enter Tryd.func73,Tryd.ntmps73
      go_wp2_with (go_at_call 79; refine (Tryd.Builder_WriteByte_k B b _ 48 _ (hI1 _) (by rw [Lib.byteCells_length]; omega) (by simp; omega)).mono ?_)
      rintro e w1 ⟨rfl,i1,b1,_⟩
      go_wp2
      refine bodyPost_ret (results_none rfl _ _ _) rfl ?_
      exact ⟨rfl,.inr (by rw [Lib.byteCells_append]; exact i1),(hbw.alloc hBw _).trans b1⟩
    · by_cases k1 : k = 1
      · subst k1
        simp only [if_true,Option.some.injEq,show ¬ (1 : Int) = 0 by decide,if_false] at h
        subst h
        go_enter Tryd.func73,Tryd.ntmps73
        go_wp2_with (go_at_call 79; refine (Tryd.Builder_WriteByte_k B b _ 49 _ (hI1 _) (by rw [Lib.byteCells_length]; omega) (by simp; omega)).mono ?_)
        rintro e w1 ⟨rfl,i1,b1,_⟩
        go_wp2
        refine bodyPost_ret (results_none rfl _ _ _) rfl ?_
        exact ⟨rfl,.inr (by rw [Lib.byteCells_append]; exact i1),(hbw.alloc hBw _).trans b1⟩
      · by_cases k2 : k = 2
        · subst k2
          simp only [if_true,show ¬ (2 : Int) = 0 by decide,show ¬ (2 : Int) = 1 by decide,if_false] at h
          obtain ⟨q,hq,hst⟩ := Option.bind_eq_some_iff.1 h
          obtain rfl := QoV hst
          have Qn : ∀ w1,Grew S.w w1 → Calls Tryd.prog 81 #[.agg #[.int .u64 a0,.int .u64 a1,.int .u64 a2,.int .u64 a3]] w1 fun e w2 => (∃ us : ByteArray,t = us.data.toList ∧ e = .returned (.string us)) ∧ Grew w1 w2 := fun w1 hg =>
            (QnI hcall hq hS hg (Qmv (QkD hg (v := .agg [.int .u64 a0,.int .u64 a1,.int .u64 a2,.int .u64 a3]) (.agg _ _ rfl fun j x u hx hu => by
              match j with
              | 0 => simp at hx hu; subst hx; subst hu; exact .int _ _
              | 1 => simp at hx hu; subst hx; subst hu; exact .int _ _
              | 2 => simp at hx hu; subst hx; subst hu; exact .int _ _
              | 3 => simp at hx hu; subst hx; subst hu; exact .int _ _
              | j + 4 => simp at hx) rfl))).2.mono fun e w1 ⟨u,he,hg1,S1,hu⟩ => by
              obtain ⟨us,h1,h2⟩ := Lo hu
              exact ⟨⟨us,h2,by rw [he,h1]⟩,hg1⟩
          have hgw := KT (hB ▸ (hbw.alloc hBw (.cells #[.int .i64 2,.int .u64 a0,.int .u64 a1,.int .u64 a2,.int .u64 a3,.slice p m cap] 27)))
          go_enter Tryd.func73,Tryd.ntmps73
          go_wp2_with (go_at_call 81; refine (Qn _ hgw).mono ?_)
          rintro e w1 ⟨⟨us,rfl,rfl⟩,hg1⟩
          have hus : us.data.toList.length = us.size := by simp
          go_wp2_with (go_at_call 80; refine (Tryd.Builder_WriteString_k B b _ us _ (NP hg1 (hI1 _)) (by rw [Lib.byteCells_length]; omega) (by have := hg1.size; simp at this; omega)).mono ?_)
          rintro e w2 ⟨rfl,i2,b2,_⟩
          go_wp2
          refine bodyPost_ret (results_none rfl _ _ _) rfl ?_
          exact ⟨rfl,.inr (by rw [Lib.byteCells_append,← Lib.strCells_eq]; exact i2),(QoN (hbw.alloc hBw _) (by simp; omega) hg1).trans b2⟩
        · simp only [k0,k1,k2,if_false] at h
          by_cases k5 : k = 5
          · have hB3 : txB k = (([] : List UInt8),([] : List UInt8),([42] : List UInt8)) := by simp [txB,k5]
            rw [hB3] at h
            split at h
            case isFalse => cases h
            rename_i hkl
            obtain ⟨r,hL,hte⟩ := Option.bind_eq_some_iff.1 h
            simp only [Option.some.injEq] at hte
            have hrl : acc.length + (([] : List UInt8) ++ r ++ ([42] : List UInt8)).length ≤ 100000000000000 := by rw [hte]; exact hle
            simp only [List.length_append,List.length_cons,List.length_nil] at hrl
            cases hks with
            | vs _ _ _ _ c off sz us hn hcap hcl2 ha hsz h1 h2 =>
            subst hn
            have hm63 : (ks.length : Int) ≤ 9223372036854775807 := by omega
            clear hcl h hr hI
            go_enter Tryd.func73,Tryd.ntmps73
            go_wp2_with (go_at_call 80; refine (Tryd.Builder_WriteString_k B b _ ({ data := #[] } : ByteArray) _ (hI1 _) (by rw [Lib.byteCells_length]; have : ({ data := #[] } : ByteArray).size = 0 := rfl; omega) (by simp; omega)).mono ?_)
            rintro e w1 rfl i1 b1 k1
            have hb1 := (hbw.alloc hBw _).trans b1
            have hne : w.heap.size ≠ b := hbne
            have hX := k1 w.heap.size _ (heap_alloc_new _ _) (by simp [hne]) (by intro c fz; simp)
            have x5 := Lib.cell_of_heap hX 5
            simp at x5
            rw [Lib.strCells_eq,show ({ data := #[] } : ByteArray).data.toList = ([] : List UInt8) from rfl,← Lib.byteCells_append] at i1
            clear hX k1 hI1
            go_wp2
            go_loopw [36] (fun i wr => ∃ (j : Nat) (ac rest : List UInt8),i = .int .i64 j ∧ j ≤ ks.length ∧ Lib.IsBuilderF 88 5 B b (Lib.byteCells ac) wr ∧ Below B S.w wr ∧ Jn (oTx call 81 n) ([] : List UInt8) (j == 0) (ks.drop j) = some rest ∧ ac ++ rest = acc ++ ([] : List UInt8) ++ r) (fun i _ => ks.length - (intOf i).toNat)
            case atStart => exact ⟨0,_,r,rfl,Nat.zero_le _,.inr i1,hb1,hL,rfl⟩
            case round =>
              obtain ⟨j,ac,rest,rfl,hj,hI,hbr,hLj,hacc⟩ := hrel
              have hBr := hbr.size
              have htl := congrArg List.length hacc
              simp only [List.length_append,List.length_cons,List.length_nil] at htl
              by_cases hlt : j < ks.length
              · have hx : ks[j]? = some ks[j] := List.getElem?_eq_getElem hlt
                rw [List.drop_eq_getElem_cons hlt] at hLj
                obtain ⟨tj,rj,ht,hr',hrest⟩ := AZ hLj
                generalize ks[j] = xj at hx ht
                have hclx := Ky hcl2 hx
                obtain ⟨kj,c0,c1,c2,c3,kk,rfl⟩ := NX ht
                have hne' : ks ≠ [] := by rintro rfl; simp at hlt
                obtain ⟨rfl,hfc,hcw⟩ := ha hne'
                obtain rfl : sz = 6 := (hsz j _ hx).symm
                rw [hB] at hcw
                have hcell : ∀ (i : Nat) (y : V),(V.agg [.int .i64 kj,.int .u64 c0,.int .u64 c1,.int .u64 c2,.int .u64 c3,.vs kk]).cells[i]? = some y → ∃ u,wr.cell? ⟨c,off + j * 6 + i,none⟩ = some u ∧ Rel S y u := fun i y hi =>
                  ⟨us (j * 6 + i),by rw [cell?_congr (hbr.block c (by omega)),Nat.add_assoc]; exact h1 j _ i y hx hi,h2 j _ i y hx hi⟩
                obtain ⟨u0,f0,r0⟩ := hcell 0 _ rfl
                obtain ⟨u1,f1,r1⟩ := hcell 1 _ rfl
                obtain ⟨u2,f2,r2⟩ := hcell 2 _ rfl
                obtain ⟨u3,f3,r3⟩ := hcell 3 _ rfl
                obtain ⟨u4,f4,r4⟩ := hcell 4 _ rfl
                obtain ⟨u5,f5,r5⟩ := hcell 5 _ rfl
                rw [Nat.add_zero] at f0
                obtain rfl := ZQ r0
                obtain rfl := ZQ r1
                obtain rfl := ZQ r2
                obtain rfl := ZQ r3
                obtain rfl := ZQ r4
                obtain ⟨p6,n6,c6,rfl⟩ : ∃ p n cap,u5 = .slice p n cap := by cases r5; exact ⟨_,_,_,rfl⟩
                have hex : Rel S (.agg [.int .i64 kj,.int .u64 c0,.int .u64 c1,.int .u64 c2,.int .u64 c3,.vs kk]) (.agg #[.int .i64 kj,.int .u64 c0,.int .u64 c1,.int .u64 c2,.int .u64 c3,.slice p6 n6 c6]) := .agg _ _ rfl fun j x u hx hu => by
                  match j with
                  | 0 => simp at hx hu; subst hx; subst hu; exact .int _ _
                  | 1 => simp at hx hu; subst hx; subst hu; exact .int _ _
                  | 2 => simp at hx hu; subst hx; subst hu; exact .int _ _
                  | 3 => simp at hx hu; subst hx; subst hu; exact .int _ _
                  | 4 => simp at hx hu; subst hx; subst hu; exact .int _ _
                  | 5 => simp at hx hu; subst hx; subst hu; exact r5
                  | j + 6 => simp at hx
                have hj' : (j : Int) < ks.length := by omega
                have hIo := fun o => NP (KT ((Below.refl _ wr).alloc (Nat.le_refl _) o)) hI
                have hbo := fun o => hbr.alloc (o := o) (by omega)
                have hbr' : b < wr.heap.size := hI.elim (fun x => x.lt) (fun x => x.lt)
                clear hcell r0 r1 r2 r3 r4 hcl2 h1 h2 hsz ha hLj
                by_cases j0 : j = 0
                · subst j0
                  simp only [Nat.zero_mul,Nat.add_zero] at f0 f1 f2 f3 f4 f5
                  simp only [beq_self_eq_true,if_true,List.nil_append] at hrest
                  subst hrest
                  go_wp2_with (go_at_call 73; refine (Uo hcall hS hB n _ tj ht hclx _ hex ac _ b (hbo _) hBb (hIo _) (by simp only [List.length_append] at htl; omega)).mono ?_)
                  rintro e w3 ⟨rfl,i3,b3⟩
                  go_wp2
                  go_roundw
                  case rel => exact ⟨1,ac ++ tj,rj,rfl,by omega,i3,b3,hr',by rw [List.append_assoc]; exact hacc⟩
                  case measure => simp [intOf]; omega
                · have j0' : (0 : Int) < j := by omega
                  have j0b : (j == 0) = false := by simpa using j0
                  rw [j0b] at hrest
                  simp only [Bool.false_eq_true,if_false] at hrest
                  subst hrest
                  simp only [List.length_append,List.length_cons,List.length_nil] at htl
                  have hbn : wr.heap.size ≠ b := by omega
                  go_wp2_with (go_at_call 80; refine (Tryd.Builder_WriteString_k B b _ ({ data := #[] } : ByteArray) _ (hIo _) (by rw [Lib.byteCells_length]; have : ({ data := #[] } : ByteArray).size = 0 := rfl; omega) (by simp; omega)).mono ?_)
                  rintro e w2 ⟨rfl,i2,b2,k3⟩
                  have hX := k3 wr.heap.size _ (heap_alloc_new _ _) (by simp [hbn]) (by intro c fz; simp)
                  have y0 := Lib.cell_of_heap hX 0
                  have y1 := Lib.cell_of_heap hX 1
                  have y2 := Lib.cell_of_heap hX 2
                  have y3 := Lib.cell_of_heap hX 3
                  have y4 := Lib.cell_of_heap hX 4
                  have y5 := Lib.cell_of_heap hX 5
                  simp at y0 y1 y2 y3 y4 y5
                  rw [Lib.strCells_eq,show ({ data := #[] } : ByteArray).data.toList = ([] : List UInt8) from rfl,← Lib.byteCells_append] at i2
                  have hb2 := (hbo _).trans b2
                  clear hX k3 f0 f1 f2 f3 f4 f5
                  go_wp2_with (go_at_call 73; refine (Uo hcall hS hB n _ tj ht hclx _ hex (ac ++ ([] : List UInt8)) _ b hb2 hBb (.inr i2) (by simp only [List.length_append,List.length_cons,List.length_nil]; omega)).mono ?_)
                  rintro e w3 ⟨rfl,i3,b3⟩
                  go_wp2
                  go_roundw
                  case rel => exact ⟨j + 1,ac ++ ([] : List UInt8) ++ tj,rj,by simp,by omega,i3,b3,by rw [show (j + 1 == 0) = false by simp]; exact hr',by rw [← hacc]; simp only [List.append_assoc]⟩
                  case measure => simp [intOf]; omega
              · obtain rfl : j = ks.length := by omega
                rw [List.drop_of_length_le (Nat.le_refl _)] at hLj
                simp only [Jn,Option.some.injEq] at hLj
                subst hLj
                rw [List.append_nil] at hacc
                subst hacc
                go_wp2_with (go_at_call 80; refine (Tryd.Builder_WriteString_k B b _ ({ data := #[42] } : ByteArray) _ hI (by rw [Lib.byteCells_length]; have : ({ data := #[42] } : ByteArray).size = 1 := rfl; simp only [List.length_append,List.length_cons,List.length_nil]; omega) (by omega)).mono ?_)
                rintro e w2 ⟨rfl,i2,b2,_⟩
                go_wp2
                go_end0
                refine ⟨rfl,.inr ?_,hbr.trans b2⟩
                rw [← hte,← List.append_assoc,← List.append_assoc,Lib.byteCells_append]
                rw [Lib.strCells_eq] at i2
                exact i2
          · by_cases k3 : k = 3
            · have hB3 : txB k = (([] : List UInt8),([40] : List UInt8),([41] : List UInt8)) := by simp [txB,k3]
              rw [hB3] at h
              split at h
              case isFalse => cases h
              rename_i hkl
              obtain ⟨r,hL,hte⟩ := Option.bind_eq_some_iff.1 h
              simp only [Option.some.injEq] at hte
              have hrl : acc.length + (([40] : List UInt8) ++ r ++ ([41] : List UInt8)).length ≤ 100000000000000 := by rw [hte]; exact hle
              simp only [List.length_append,List.length_cons,List.length_nil] at hrl
              cases hks with
              | vs _ _ _ _ c off sz us hn hcap hcl2 ha hsz h1 h2 =>
              subst hn
              have hm63 : (ks.length : Int) ≤ 9223372036854775807 := by omega
              clear hcl h hr hI
              go_enter Tryd.func73,Tryd.ntmps73
              go_wp2_with (go_at_call 80; refine (Tryd.Builder_WriteString_k B b _ ({ data := #[40] } : ByteArray) _ (hI1 _) (by rw [Lib.byteCells_length]; have : ({ data := #[40] } : ByteArray).size = 1 := rfl; omega) (by simp; omega)).mono ?_)
              rintro e w1 rfl i1 b1 k1
              have hb1 := (hbw.alloc hBw _).trans b1
              have hne : w.heap.size ≠ b := hbne
              have hX := k1 w.heap.size _ (heap_alloc_new _ _) (by simp [hne]) (by intro c fz; simp)
              have x5 := Lib.cell_of_heap hX 5
              simp at x5
              rw [Lib.strCells_eq,show ({ data := #[40] } : ByteArray).data.toList = ([40] : List UInt8) from rfl,← Lib.byteCells_append] at i1
              clear hX k1 hI1
              go_wp2
              go_loopw [36] (fun i wr => ∃ (j : Nat) (ac rest : List UInt8),i = .int .i64 j ∧ j ≤ ks.length ∧ Lib.IsBuilderF 88 5 B b (Lib.byteCells ac) wr ∧ Below B S.w wr ∧ Jn (oTx call 81 n) ([] : List UInt8) (j == 0) (ks.drop j) = some rest ∧ ac ++ rest = acc ++ ([40] : List UInt8) ++ r) (fun i _ => ks.length - (intOf i).toNat)
              case atStart => exact ⟨0,_,r,rfl,Nat.zero_le _,.inr i1,hb1,hL,rfl⟩
              case round =>
                obtain ⟨j,ac,rest,rfl,hj,hI,hbr,hLj,hacc⟩ := hrel
                have hBr := hbr.size
                have htl := congrArg List.length hacc
                simp only [List.length_append,List.length_cons,List.length_nil] at htl
                by_cases hlt : j < ks.length
                · have hx : ks[j]? = some ks[j] := List.getElem?_eq_getElem hlt
                  rw [List.drop_eq_getElem_cons hlt] at hLj
                  obtain ⟨tj,rj,ht,hr',hrest⟩ := AZ hLj
                  generalize ks[j] = xj at hx ht
                  have hclx := Ky hcl2 hx
                  obtain ⟨kj,c0,c1,c2,c3,kk,rfl⟩ := NX ht
                  have hne' : ks ≠ [] := by rintro rfl; simp at hlt
                  obtain ⟨rfl,hfc,hcw⟩ := ha hne'
                  obtain rfl : sz = 6 := (hsz j _ hx).symm
                  rw [hB] at hcw
                  have hcell : ∀ (i : Nat) (y : V),(V.agg [.int .i64 kj,.int .u64 c0,.int .u64 c1,.int .u64 c2,.int .u64 c3,.vs kk]).cells[i]? = some y → ∃ u,wr.cell? ⟨c,off + j * 6 + i,none⟩ = some u ∧ Rel S y u := fun i y hi =>
                    ⟨us (j * 6 + i),by rw [cell?_congr (hbr.block c (by omega)),Nat.add_assoc]; exact h1 j _ i y hx hi,h2 j _ i y hx hi⟩
                  obtain ⟨u0,f0,r0⟩ := hcell 0 _ rfl
                  obtain ⟨u1,f1,r1⟩ := hcell 1 _ rfl
                  obtain ⟨u2,f2,r2⟩ := hcell 2 _ rfl
                  obtain ⟨u3,f3,r3⟩ := hcell 3 _ rfl
                  obtain ⟨u4,f4,r4⟩ := hcell 4 _ rfl
                  obtain ⟨u5,f5,r5⟩ := hcell 5 _ rfl
                  rw [Nat.add_zero] at f0
                  obtain rfl := ZQ r0
                  obtain rfl := ZQ r1
                  obtain rfl := ZQ r2
                  obtain rfl := ZQ r3
                  obtain rfl := ZQ r4
                  obtain ⟨p6,n6,c6,rfl⟩ : ∃ p n cap,u5 = .slice p n cap := by cases r5; exact ⟨_,_,_,rfl⟩
                  have hex : Rel S (.agg [.int .i64 kj,.int .u64 c0,.int .u64 c1,.int .u64 c2,.int .u64 c3,.vs kk]) (.agg #[.int .i64 kj,.int .u64 c0,.int .u64 c1,.int .u64 c2,.int .u64 c3,.slice p6 n6 c6]) := .agg _ _ rfl fun j x u hx hu => by
                    match j with
                    | 0 => simp at hx hu; subst hx; subst hu; exact .int _ _
                    | 1 => simp at hx hu; subst hx; subst hu; exact .int _ _
                    | 2 => simp at hx hu; subst hx; subst hu; exact .int _ _
                    | 3 => simp at hx hu; subst hx; subst hu; exact .int _ _
                    | 4 => simp at hx hu; subst hx; subst hu; exact .int _ _
                    | 5 => simp at hx hu; subst hx; subst hu; exact r5
                    | j + 6 => simp at hx
                  have hj' : (j : Int) < ks.length := by omega
                  have hIo := fun o => NP (KT ((Below.refl _ wr).alloc (Nat.le_refl _) o)) hI
                  have hbo := fun o => hbr.alloc (o := o) (by omega)
                  have hbr' : b < wr.heap.size := hI.elim (fun x => x.lt) (fun x => x.lt)
                  clear hcell r0 r1 r2 r3 r4 hcl2 h1 h2 hsz ha hLj
                  by_cases j0 : j = 0
                  · subst j0
                    simp only [Nat.zero_mul,Nat.add_zero] at f0 f1 f2 f3 f4 f5
                    simp only [beq_self_eq_true,if_true,List.nil_append] at hrest
                    subst hrest
                    go_wp2_with (go_at_call 73; refine (Uo hcall hS hB n _ tj ht hclx _ hex ac _ b (hbo _) hBb (hIo _) (by simp only [List.length_append] at htl; omega)).mono ?_)
                    rintro e w3 ⟨rfl,i3,b3⟩
                    go_wp2
                    go_roundw
                    case rel => exact ⟨1,ac ++ tj,rj,rfl,by omega,i3,b3,hr',by rw [List.append_assoc]; exact hacc⟩
                    case measure => simp [intOf]; omega
                  · have j0' : (0 : Int) < j := (by omega); have j0b : (j == 0) = false := by simpa using j0
                    rw [j0b] at hrest
                    simp only [Bool.false_eq_true,if_false] at hrest
                    subst hrest
                    simp only [List.length_append,List.length_cons,List.length_nil] at htl
                    have hbn : wr.heap.size ≠ b := (by omega); go_wp2_with (go_at_call 80; refine (Tryd.Builder_WriteString_k B b _ ({ data := #[] } : ByteArray) _ (hIo _) (by rw [Lib.byteCells_length]; have : ({ data := #[] } : ByteArray).size = 0 := rfl; omega) (by simp; omega)).mono ?_)
                    rintro e w2 ⟨rfl,i2,b2,k3⟩
                    have hX := k3 wr.heap.size _ (heap_alloc_new _ _) (by simp [hbn]) (by intro c fz; simp)
                    have y0 := Lib.cell_of_heap hX 0
                    have y1 := Lib.cell_of_heap hX 1
                    have y2 := Lib.cell_of_heap hX 2
                    have y3 := Lib.cell_of_heap hX 3
                    have y4 := Lib.cell_of_heap hX 4
                    have y5 := Lib.cell_of_heap hX 5
                    simp at y0 y1 y2 y3 y4 y5
                    rw [Lib.strCells_eq,show ({ data := #[] } : ByteArray).data.toList = ([] : List UInt8) from rfl,← Lib.byteCells_append] at i2
                    have hb2 := (hbo _).trans b2
                    clear hX k3 f0 f1 f2 f3 f4 f5
                    go_wp2_with (go_at_call 73; refine (Uo hcall hS hB n _ tj ht hclx _ hex (ac ++ ([] : List UInt8)) _ b hb2 hBb (.inr i2) (by simp only [List.length_append,List.length_cons,List.length_nil]; omega)).mono ?_)
                    rintro e w3 ⟨rfl,i3,b3⟩
                    go_wp2
                    go_roundw
                    case rel => exact ⟨j + 1,ac ++ ([] : List UInt8) ++ tj,rj,by simp,by omega,i3,b3,by rw [show (j + 1 == 0) = false by simp]; exact hr',by rw [← hacc]; simp only [List.append_assoc]⟩
                    case measure => simp [intOf]; omega
                · obtain rfl : j = ks.length := by omega
                  rw [List.drop_of_length_le (Nat.le_refl _)] at hLj
                  simp only [Jn,Option.some.injEq] at hLj
                  subst hLj
                  rw [List.append_nil] at hacc
                  subst hacc
                  go_wp2_with (go_at_call 80; refine (Tryd.Builder_WriteString_k B b _ ({ data := #[41] } : ByteArray) _ hI (by rw [Lib.byteCells_length]; have : ({ data := #[41] } : ByteArray).size = 1 := rfl; simp only [List.length_append,List.length_cons,List.length_nil]; omega) (by omega)).mono ?_)
                  rintro e w2 ⟨rfl,i2,b2,_⟩
                  go_wp2
                  go_end0
                  refine ⟨rfl,.inr ?_,hbr.trans b2⟩
                  rw [← hte,← List.append_assoc,← List.append_assoc,Lib.byteCells_append]
                  rw [Lib.strCells_eq] at i2
                  exact i2
            · have hB3 : txB k = (([124] : List UInt8),([123] : List UInt8),([125] : List UInt8)) := by simp [txB,k5,k3]
              rw [hB3] at h
              split at h
              case isFalse => cases h
              rename_i hkl
              obtain ⟨r,hL,hte⟩ := Option.bind_eq_some_iff.1 h
              simp only [Option.some.injEq] at hte
              have hrl : acc.length + (([123] : List UInt8) ++ r ++ ([125] : List UInt8)).length ≤ 100000000000000 := by rw [hte]; exact hle
              simp only [List.length_append,List.length_cons,List.length_nil] at hrl
              cases hks with
              | vs _ _ _ _ c off sz us hn hcap hcl2 ha hsz h1 h2 =>
              subst hn
              have hm63 : (ks.length : Int) ≤ 9223372036854775807 := by omega
              clear hcl h hr hI
              go_enter Tryd.func73,Tryd.ntmps73
              go_wp2_with (go_at_call 80; refine (Tryd.Builder_WriteString_k B b _ ({ data := #[123] } : ByteArray) _ (hI1 _) (by rw [Lib.byteCells_length]; have : ({ data := #[123] } : ByteArray).size = 1 := rfl; omega) (by simp; omega)).mono ?_)
              rintro e w1 rfl i1 b1 k1
              have hb1 := (hbw.alloc hBw _).trans b1
              have hne : w.heap.size ≠ b := hbne
              have hX := k1 w.heap.size _ (heap_alloc_new _ _) (by simp [hne]) (by intro c fz; simp)
              have x5 := Lib.cell_of_heap hX 5
              simp at x5
              rw [Lib.strCells_eq,show ({ data := #[123] } : ByteArray).data.toList = ([123] : List UInt8) from rfl,← Lib.byteCells_append] at i1
              clear hX k1 hI1
              go_wp2
              go_loopw [36] (fun i wr => ∃ (j : Nat) (ac rest : List UInt8),i = .int .i64 j ∧ j ≤ ks.length ∧ Lib.IsBuilderF 88 5 B b (Lib.byteCells ac) wr ∧ Below B S.w wr ∧ Jn (oTx call 81 n) ([124] : List UInt8) (j == 0) (ks.drop j) = some rest ∧ ac ++ rest = acc ++ ([123] : List UInt8) ++ r) (fun i _ => ks.length - (intOf i).toNat)
              case atStart => exact ⟨0,_,r,rfl,Nat.zero_le _,.inr i1,hb1,hL,rfl⟩
              case round =>
                obtain ⟨j,ac,rest,rfl,hj,hI,hbr,hLj,hacc⟩ := hrel
                have hBr := hbr.size
                have htl := congrArg List.length hacc
                simp only [List.length_append,List.length_cons,List.length_nil] at htl
                by_cases hlt : j < ks.length
                · have hx : ks[j]? = some ks[j] := List.getElem?_eq_getElem hlt
                  rw [List.drop_eq_getElem_cons hlt] at hLj
                  obtain ⟨tj,rj,ht,hr',hrest⟩ := AZ hLj
                  generalize ks[j] = xj at hx ht
                  have hclx := Ky hcl2 hx
                  obtain ⟨kj,c0,c1,c2,c3,kk,rfl⟩ := NX ht
                  have hne' : ks ≠ [] := by rintro rfl; simp at hlt
                  obtain ⟨rfl,hfc,hcw⟩ := ha hne'
                  obtain rfl : sz = 6 := (hsz j _ hx).symm
                  rw [hB] at hcw
                  have hcell : ∀ (i : Nat) (y : V),(V.agg [.int .i64 kj,.int .u64 c0,.int .u64 c1,.int .u64 c2,.int .u64 c3,.vs kk]).cells[i]? = some y → ∃ u,wr.cell? ⟨c,off + j * 6 + i,none⟩ = some u ∧ Rel S y u := fun i y hi =>
                    ⟨us (j * 6 + i),by rw [cell?_congr (hbr.block c (by omega)),Nat.add_assoc]; exact h1 j _ i y hx hi,h2 j _ i y hx hi⟩
                  obtain ⟨u0,f0,r0⟩ := hcell 0 _ rfl
                  obtain ⟨u1,f1,r1⟩ := hcell 1 _ rfl
                  obtain ⟨u2,f2,r2⟩ := hcell 2 _ rfl
                  obtain ⟨u3,f3,r3⟩ := hcell 3 _ rfl
                  obtain ⟨u4,f4,r4⟩ := hcell 4 _ rfl
                  obtain ⟨u5,f5,r5⟩ := hcell 5 _ rfl
                  rw [Nat.add_zero] at f0
                  obtain rfl := ZQ r0
                  obtain rfl := ZQ r1
                  obtain rfl := ZQ r2
                  obtain rfl := ZQ r3
                  obtain rfl := ZQ r4
                  obtain ⟨p6,n6,c6,rfl⟩ : ∃ p n cap,u5 = .slice p n cap := by cases r5; exact ⟨_,_,_,rfl⟩
                  have hex : Rel S (.agg [.int .i64 kj,.int .u64 c0,.int .u64 c1,.int .u64 c2,.int .u64 c3,.vs kk]) (.agg #[.int .i64 kj,.int .u64 c0,.int .u64 c1,.int .u64 c2,.int .u64 c3,.slice p6 n6 c6]) := .agg _ _ rfl fun j x u hx hu => by
                    match j with
                    | 0 => simp at hx hu; subst hx; subst hu; exact .int _ _
                    | 1 => simp at hx hu; subst hx; subst hu; exact .int _ _
                    | 2 => simp at hx hu; subst hx; subst hu; exact .int _ _
                    | 3 => simp at hx hu; subst hx; subst hu; exact .int _ _
                    | 4 => simp at hx hu; subst hx; subst hu; exact .int _ _
                    | 5 => simp at hx hu; subst hx; subst hu; exact r5
                    | j + 6 => simp at hx
                  have hj' : (j : Int) < ks.length := by omega
                  have hIo := fun o => NP (KT ((Below.refl _ wr).alloc (Nat.le_refl _) o)) hI
                  have hbo := fun o => hbr.alloc (o := o) (by omega)
                  have hbr' : b < wr.heap.size := hI.elim (fun x => x.lt) (fun x => x.lt)
                  clear hcell r0 r1 r2 r3 r4 hcl2 h1 h2 hsz ha hLj
                  by_cases j0 : j = 0
                  · subst j0
                    simp only [Nat.zero_mul,Nat.add_zero] at f0 f1 f2 f3 f4 f5
                    simp only [beq_self_eq_true,if_true,List.nil_append] at hrest
                    subst hrest
                    go_wp2_with (go_at_call 73; refine (Uo hcall hS hB n _ tj ht hclx _ hex ac _ b (hbo _) hBb (hIo _) (by simp only [List.length_append] at htl; omega)).mono ?_)
                    rintro e w3 ⟨rfl,i3,b3⟩
                    go_wp2
                    go_roundw
                    case rel => exact ⟨1,ac ++ tj,rj,rfl,by omega,i3,b3,hr',by rw [List.append_assoc]; exact hacc⟩
                    case measure => simp [intOf]; omega
                  · have j0' : (0 : Int) < j := (by omega); have j0b : (j == 0) = false := by simpa using j0
                    rw [j0b] at hrest
                    simp only [Bool.false_eq_true,if_false] at hrest
                    subst hrest
                    simp only [List.length_append,List.length_cons,List.length_nil] at htl
                    have hbn : wr.heap.size ≠ b := (by omega); go_wp2_with (go_at_call 80; refine (Tryd.Builder_WriteString_k B b _ ({ data := #[124] } : ByteArray) _ (hIo _) (by rw [Lib.byteCells_length]; have : ({ data := #[124] } : ByteArray).size = 1 := rfl; omega) (by simp; omega)).mono ?_)
                    rintro e w2 ⟨rfl,i2,b2,k3⟩
                    have hX := k3 wr.heap.size _ (heap_alloc_new _ _) (by simp [hbn]) (by intro c fz; simp)
                    have y0 := Lib.cell_of_heap hX 0
                    have y1 := Lib.cell_of_heap hX 1
                    have y2 := Lib.cell_of_heap hX 2
                    have y3 := Lib.cell_of_heap hX 3
                    have y4 := Lib.cell_of_heap hX 4
                    have y5 := Lib.cell_of_heap hX 5
                    simp at y0 y1 y2 y3 y4 y5
                    rw [Lib.strCells_eq,show ({ data := #[124] } : ByteArray).data.toList = ([124] : List UInt8) from rfl,← Lib.byteCells_append] at i2
                    have hb2 := (hbo _).trans b2
                    clear hX k3 f0 f1 f2 f3 f4 f5
                    go_wp2_with (go_at_call 73; refine (Uo hcall hS hB n _ tj ht hclx _ hex (ac ++ ([124] : List UInt8)) _ b hb2 hBb (.inr i2) (by simp only [List.length_append,List.length_cons,List.length_nil]; omega)).mono ?_)
                    rintro e w3 ⟨rfl,i3,b3⟩
                    go_wp2
                    go_roundw
                    case rel => exact ⟨j + 1,ac ++ ([124] : List UInt8) ++ tj,rj,by simp,by omega,i3,b3,by rw [show (j + 1 == 0) = false by simp]; exact hr',by rw [← hacc]; simp only [List.append_assoc]⟩
                    case measure => simp [intOf]; omega
                · obtain rfl : j = ks.length := by omega
                  rw [List.drop_of_length_le (Nat.le_refl _)] at hLj
                  simp only [Jn,Option.some.injEq] at hLj
                  subst hLj
                  rw [List.append_nil] at hacc
                  subst hacc
                  go_wp2_with (go_at_call 80; refine (Tryd.Builder_WriteString_k B b _ ({ data := #[125] } : ByteArray) _ hI (by rw [Lib.byteCells_length]; have : ({ data := #[125] } : ByteArray).size = 1 := rfl; simp only [List.length_append,List.length_cons,List.length_nil]; omega) (by omega)).mono ?_)
                  rintro e w2 ⟨rfl,i2,b2,_⟩
                  go_wp2
                  go_end0
                  refine ⟨rfl,.inr ?_,hbr.trans b2⟩
                  rw [← hte,← List.append_assoc,← List.append_assoc,Lib.byteCells_append]
                  rw [Lib.strCells_eq] at i2
                  exact i2
end Go.Proofs.YtdnmpaielmfiiaaDoor
end
