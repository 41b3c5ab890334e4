/- Ky: a part of the proof that each law of this seat answers true at every input. No condition. -/
import Derived.Test.YthpghekebjadcaaKx
set_option linter.unusedVariables false
set_option linter.unusedSimpArgs false
set_option maxRecDepth 20000
section
namespace Go.Ev
noncomputable section
def Jj (v : V) (k : V → KR) : KR := match v with
 | .agg cs => UM cs fun cs => k (.agg cs)
 | .vs cs => UM cs fun cs => k (.vs cs)
 | .tup cs => UM cs fun cs => k (.tup cs)
 | .fptr cs => UM cs fun cs => k (.fptr cs)
 | .str s => Ku s [] fun s => k (.str s)
 | .int a (.ofNat n) => frc n fun n => k (.int a (.ofNat n))
 | .int a (.negSucc n) => frc n fun n => k (.int a (.negSucc n))
 | .bool b => Ra b k
 | v => k v
theorem JQ (v : V) (k : V → KR) : Jj v k = k v := by
 unfold Jj
 split <;> simp only [QbJ,Uu,Z7,List.append_nil,BC]
def Ay (b : Blk) (k : Blk → KR) : KR := match b with
 | .var cs => UM cs fun cs => k (.var cs)
 | .row v s a cs => UM cs fun cs => k (.row v s a cs)
 | b => k b
theorem Qll (b : Blk) (k : Blk → KR) : Ay b k = k b := by
 unfold Ay
 split <;> simp only [QbJ]
def Wt (H : Qa) (k : Qa → KR) : KR := match H with
 | b :: H => Ay b fun b => k (b :: H)
 | [] => k []
theorem VS (H : Qa) (k : Qa → KR) : Wt H k = k H := by
 unfold Wt
 split <;> simp only [Qll]
def G9 (l : List V) (k : V → KR) : KR := kb (Kt Rm l) fun v => Jj v k
theorem Dg {l : List V} {k k' : V → KR} (h : ∀ v,KLe (k v) (k' v)) : KLe (G9 l k) (bnd (Ez l) k') := Z1 (by rw [MN]) fun v => by rw [JQ]; exact h v
def MS (H : Qa) (x : V) (k : V → KR) : KR := kb (GJ H x) fun v => Jj v k
theorem Ee {H : Qa} {x : V} {k k' : V → KR} (h : ∀ v,KLe (k v) (k' v)) : KLe (MS H x k) (bnd (DY H x) k') := Z1 (by rw [MW]) fun v => by rw [JQ]; exact h v
def Xw (kk : Nat) (z : V) (H : Qa) (m : V) (q : V) (k : V → KR) : KR := kb (Mt kk z H m q) fun v => Jj v k
theorem QgU {kk : Nat} {z : V} {H : Qa} {m : V} {q : V} {k k' : V → KR} (h : ∀ v,KLe (k v) (k' v)) : KLe (Xw kk z H m q k) (bnd (Ab kk z H m q) k') := Z1 (by rw [M4]) fun v => by rw [JQ]; exact h v
def YM (len : Nat) (n : Nat) (ag : Bool) (cs : List V) (H : Qa) (ps : List (Nat × V)) (k : V → Qa → KR) : KR := ke (FN len n ag cs H ps) fun v H => Wt H fun H => k v H
theorem YP {len : Nat} {n : Nat} {ag : Bool} {cs : List V} {H : Qa} {ps : List (Nat × V)} {k k' : V → Qa → KR} (h : ∀ v H,KLe (k v H) (k' v H)) : KLe (YM len n ag cs H ps k) (beff (CB len n ag cs H ps) k') := KP (by rw [Mr]) fun v H => by rw [VS]; exact h v H
def M3 (n : Nat) (ag : Bool) (b : Nat) (z : List V) (l : V) (c : V) (H : Qa) (k : V → Qa → KR) : KR := ke (N2 n ag b z l c H) fun v H => Wt H fun H => k v H
theorem Gi {n : Nat} {ag : Bool} {b : Nat} {z : List V} {l : V} {c : V} {H : Qa} {k k' : V → Qa → KR} (h : ∀ v H,KLe (k v H) (k' v H)) : KLe (M3 n ag b z l c H k) (beff (Dw n ag b z l c H) k') := KP (by rw [Mz]) fun v H => by rw [VS]; exact h v H
def Qdw (H : Qa) (k : V → Qa → KR) : KR := ke (Gp H) fun v H => Wt H fun H => k v H
theorem Qlc {H : Qa} {k k' : V → Qa → KR} (h : ∀ v H,KLe (k v H) (k' v H)) : KLe (Qdw H k) (beff (CV H) k') := KP (by rw [L9]) fun v H => by rw [VS]; exact h v H
def NU (base : Nat) (kk : Nat) (H : Qa) (m : V) (q : V) (x : V) (k : V → Qa → KR) : KR := ke (Rw base kk H m q x) fun v H => Wt H fun H => k v H
theorem Gw {base : Nat} {kk : Nat} {H : Qa} {m : V} {q : V} {x : V} {k k' : V → Qa → KR} (h : ∀ v H,KLe (k v H) (k' v H)) : KLe (NU base kk H m q x k) (beff (CU base kk H m q x) k') := KP (by rw [MM]) fun v H => by rw [VS]; exact h v H
theorem ZK {f : (V → KR) → KR} {X : Option V} (hf : Bl f X) {v : V} {k k' : KR} (h : KLe k k') : KLe (f fun u => kif (ZD u v) k none) (sch (sam X v) k') := by
 have := hf (fun u => kif (ZD u v) k none) (fun u => chk (V.beq u v) k') fun u => J3 fun hb => by
  rw [PH u v hb]; exact h
 refine this.trans (KLe.of ?_)
 rw [YL,WF,PS]
 cases X <;> rfl
theorem QeB {x : Option V} {c : V → Bool} {k : V → KR} : bnd x (fun v => sch (c v) (k v)) = bnd (bnd x fun v => sch (c v) (some v)) k := by
 simp only [YL,WF]
 cases x with
 | none => rfl
 | some v => simp only [Option.bind_some]; cases c v <;> rfl
theorem QB (keep : Bool) (base : Nat) {x y : KR} (h : KLe x y) {k k' : V → Qa → KR} (hk : ∀ v H,KLe (k v H) (k' v H)) : KLe (Qx x k) (bcall y k' fun v H => pn keep base v H) := YZ h hk
theorem Yu (keep : Bool) (base : Nat) {g : V} {w : Bool} {H : Qa} {x y : KR} (h : KLe x y) {k k' : V → Qa → KR} (hk : ∀ v H,KLe (k v H) (k' v H)) : KLe (Yo g w x H k) (bcall (gua g w y (some (.ret (.tup []),H))) k' fun v H => pn keep base v H) := QrI h hk
def UW (f : V → (V → KR) → KR) (l : List V) (k : List V → KR) : KR := List.rec (motive := fun _ => (List V → KR) → KR) (fun k => k []) (fun x _ ih k => f x fun y => ih fun ys => k (y :: ys)) l k
def FD (sz n : Nat) (l : List V) (k : List V → KR) : KR := Nat.rec (motive := fun _ => List V → (List V → KR) → KR) (fun _ k => k []) (fun _ ih l k => Kl sz l fun a => Jn sz l fun r => ih r fun xs => k (.agg a :: xs)) n l k
theorem Qga (sz : Nat) : ∀ (n : Nat) (l : List V) (k : List V → KR),KLe (FD sz n l k) (k (J0 sz true n l))
 | 0,l,k => KLe.refl _
 | n + 1,l,k => by
  intro z hz
  have hz' : (Kl sz l fun a => Jn sz l fun r => FD sz n r fun xs => k (.agg a :: xs)) = some z := hz
  obtain ⟨_,h1⟩ := Er hz'
  obtain ⟨_,h2⟩ := R3 h1
  have := Qga sz n _ _ z h2
  simpa [J0] using this
theorem Qhp : ∀ (n : Nat) (l : List V),l.length = n → J0 1 false n l = l
 | 0,[],_ => rfl
 | n + 1,a :: t,h => by
  simp only [J0,Bool.false_eq_true,if_false,List.headD_cons,List.drop_succ_cons,List.drop_zero]
  rw [Qhp n t (by simpa using h)]
theorem Gc {f : V → (V → KR) → KR} {g : V → Option V} (h : ∀ v k,KLe (f v k) ((g v).bind k)) : ∀ (l : List V) (k : List V → KR),KLe (UW f l k) ((Y6 g l).bind k)
 | [],k => KLe.refl _
 | x :: xs,k => by
  refine (h x (fun y => UW f xs fun ys => k (y :: ys))).trans ?_
  simp only [Y6]
  cases g x with
  | none => exact KLe.none _
  | some y =>
   simp only [Option.bind_some]
   refine (Gc h xs _).trans (KLe.of ?_)
   cases Y6 g xs <;> rfl
theorem X8 {g : V → Option V} : ∀ {l m : List V},Y6 g l = some m → m.length = l.length
 | [],m,h => by simp only [Y6,Option.some.injEq] at h; subst h; rfl
 | x :: xs,m,h => by
  simp only [Y6] at h
  obtain ⟨y,_,h⟩ := Option.bind_eq_some_iff.1 h
  obtain ⟨ys,h1,rfl⟩ := Option.map_eq_some_iff.1 h
  simp [X8 h1]
def RS (H : Qa) (base : Nat) (n : Nat) : V → (V → KR) → KR := Nat.rec (motive := fun _ => V → (V → KR) → KR) (fun _ _ => none) (fun _ ih v k => match v with
 | .nils => k (.vs [])
 | .rs i ver sz' off len => kif (Nat.ble (Nat.succ i) base) (k (.rs i ver sz' off len)) (hgK H i fun b => match b with
  | .row v' sz ag cs => kif (ZH (Nat.beq ver v') (ZH (Nat.beq sz' sz) (Nat.ble 1 sz))) (Jn (Nat.mul off sz) cs fun l => Kl (Nat.mul len sz) l fun l => UW ih l fun l' => kif (ZH (Wv l') (Ws l')) (Bool.rec (kif (Nat.beq sz 1) (k (.vs l')) none) (FD sz len l' fun xs => k (.vs xs)) ag) none) none
  | _ => none)
 | .agg cs => UW ih cs fun l => k (.agg l)
 | .tup cs => UW ih cs fun l => k (.tup l)
 | .iface t x => ih x fun y => k (.iface t y)
 | v => k v) n
theorem QgI (H : Qa) (base : Nat) : ∀ (n : Nat) (v : V) (k : V → KR),KLe (RS H base n v k) ((frz H base n v).bind k)
 | 0,v,k => KLe.none _
 | n + 1,v,k => by
  show KLe (match v with
   | .nils => k (.vs [])
   | .rs i ver sz' off len => kif (Nat.ble (Nat.succ i) base) (k (.rs i ver sz' off len)) (hgK H i fun b => match b with
    | .row v' sz ag cs => kif (ZH (Nat.beq ver v') (ZH (Nat.beq sz' sz) (Nat.ble 1 sz))) (Jn (Nat.mul off sz) cs fun l => Kl (Nat.mul len sz) l fun l => UW (RS H base n) l fun l' => kif (ZH (Wv l') (Ws l')) (Bool.rec (kif (Nat.beq sz 1) (k (.vs l')) none) (FD sz len l' fun xs => k (.vs xs)) ag) none) none
    | _ => none)
   | .agg cs => UW (RS H base n) cs fun l => k (.agg l)
   | .tup cs => UW (RS H base n) cs fun l => k (.tup l)
   | .iface t x => RS H base n x fun y => k (.iface t y)
   | v => k v) _
  have ih := QgI H base n
  split
  ·exact KLe.refl _
  ·rename_i i ver sz' off len
   simp only [frz]
   by_cases hi : i < base
   ·rw [if_pos hi,YY,if_pos (by rw [Nat.ble_eq]; exact hi)]; exact KLe.refl _
   ·rw [if_neg hi,YY,if_neg (by rw [Nat.ble_eq]; exact hi),Rb]
    refine BP fun b hb => ?_
    rw [hb]
    split
    ·rename_i v' sz ag cs
     refine J3 fun h => ?_
     obtain ⟨h1,h⟩ := Yh.1 h
     obtain ⟨h2,h3⟩ := Yh.1 h
     have e1 : ver = v' := Nat.eq_of_beq_eq_true h1
     have e2 : sz' = sz := Nat.eq_of_beq_eq_true h2
     have e3 : 0 < sz := Nat.le_of_ble_eq_true h3
     subst e1 e2
     intro z hz
     obtain ⟨g1,hz1⟩ := R3 hz
     obtain ⟨g2,hz2⟩ := Er hz1
     have g3 : (off + len) * sz' ≤ cs.length := by
      simp only [Nat.mul_eq] at g1 g2
      rw [Nat.add_mul]; simp at g2; omega
     simp only []
     rw [if_pos ⟨trivial,trivial,g3,e3⟩]
     have hz3 := Gc ih _ _ z hz2
     simp only [Nat.mul_eq] at hz3
     cases hm : Y6 (frz H base n) ((cs.drop (off * sz')).take (len * sz')) with
     | none => rw [hm] at hz3; cases hz3
     | some l' =>
      rw [hm] at hz3
      simp only [Option.bind_some] at hz3 ⊢
      obtain ⟨h4,h5⟩ := UH hz3
      obtain ⟨h6,h7⟩ := Yh.1 h4
      rw [UJ] at h6
      rw [Mo] at h7
      cases ag with
      | true =>
       rw [if_pos ⟨h6,h7,.inl rfl⟩]
       exact Qga sz' len l' _ z h5
      | false =>
       obtain ⟨h8,h9⟩ := UH h5
       have e8 : sz' = 1 := Nat.eq_of_beq_eq_true h8
       rw [if_pos ⟨h6,h7,.inr e8⟩]
       subst e8
       have hl := X8 hm
       simp only [Option.bind_some]
       rw [Qhp len l' (by rw [hl]; simp at g2 ⊢; omega)]
       exact h9
    ·exact KLe.none _
  ·rename_i cs
   refine (Gc ih cs _).trans (KLe.of ?_)
   simp only [frz]
   cases Y6 (frz H base n) cs <;> rfl
  ·rename_i cs
   refine (Gc ih cs _).trans (KLe.of ?_)
   simp only [frz]
   cases Y6 (frz H base n) cs <;> rfl
  ·rename_i t x
   refine (ih x _).trans (KLe.of ?_)
   simp only [frz]
   cases frz H base n x <;> rfl
  ·rename_i h1 h2 h3 h4 h5
   refine KLe.of ?_
   cases v <;> first | rfl | exact (h1 rfl).elim | exact (h2 _ _ _ _ _ rfl).elim | exact (h3 _ rfl).elim | exact (h4 _ rfl).elim | exact (h5 _ _ rfl).elim
def okR (v : V) (base : Nat) : Bool := Bool.rec (Nat.ble v.maxRef base) true (clB v)
theorem Qfg (v : V) (base : Nat) : okR v base = true ↔ v.maxRef ≤ base := by
 unfold okR
 cases h : clB v with
 | true => rw [NL] at h; simp [Uj h]
 | false => exact Nat.ble_eq ▸ Iff.rfl
def B6 (b : Nat) (l : List V) : Bool := List.rec true (fun v _ ih => Bool.rec false ih (Bool.rec (Nat.ble v.maxRef b) true (plB v))) l
theorem Pn {b : Nat} : ∀ {l : List V},B6 b l = true → Yd l ≤ b
 | [],_ => Nat.zero_le _
 | v :: l,h => by
  have h' : (Bool.rec false (B6 b l) (Bool.rec (Nat.ble v.maxRef b) true (plB v)) : Bool) = true := h
  have hv : v.maxRef ≤ b ∧ B6 b l = true := by
   cases hp : plB v with
   | true => rw [hp] at h'; exact ⟨by rw [(Dd hp).1]; exact Nat.zero_le _,h'⟩
   | false =>
    rw [hp] at h'
    cases hq : Nat.ble v.maxRef b with
    | true => simp only [hq] at h'; exact ⟨Nat.le_of_ble_eq_true hq,h'⟩
    | false => simp only [hq] at h'; cases h'
  show max v.maxRef (Yd l) ≤ b
  exact Nat.max_le.2 ⟨hv.1,Pn hv.2⟩
def NE (b : Nat) (x : Blk) : Bool := match x with
 | .dead => true
 | .var cs => B6 b cs
 | .row _ _ _ cs => B6 b cs
 | x => Nat.ble (YX x) b
theorem QoE {b : Nat} {x : Blk} (h : NE b x = true) : YX x ≤ b := by
 cases x with
 | dead => exact Nat.zero_le _
 | var cs => exact Pn h
 | row _ _ _ cs => exact Pn h
 | map es => exact Nat.le_of_ble_eq_true h
def W6 (b : Nat) (H : Qa) : Bool := List.rec true (fun x _ ih => Bool.rec false ih (NE b x)) H
theorem Xm {b : Nat} : ∀ {H : Qa},W6 b H = true → Ut b H = true
 | [],_ => rfl
 | x :: H,h => by
  have h' : (Bool.rec false (W6 b H) (NE b x) : Bool) = true := h
  cases hb : NE b x with
  | false => rw [hb] at h'; cases h'
  | true =>
   rw [hb] at h'
   simp [Ut,QoE hb,Xm h']
theorem A7 {b : Nat} : ∀ {l : List V},B6 b l = true ↔ Yd l ≤ b
 | [] => ⟨fun _ => Nat.zero_le _,fun _ => rfl⟩
 | v :: l => ⟨Pn,fun h => by
  have h2 : max v.maxRef (Yd l) ≤ b := h
  have ⟨h3,h4⟩ := Nat.max_le.1 h2
  show (Bool.rec false (B6 b l) (Bool.rec (Nat.ble v.maxRef b) true (plB v)) : Bool) = true
  rw [A7.2 h4,show Nat.ble v.maxRef b = true from Nat.ble_eq ▸ h3]
  cases plB v <;> rfl⟩
theorem E7 {b : Nat} : ∀ {H : Qa},Ut b H = true → W6 b H = true
 | [],_ => rfl
 | x :: H,h => by
  simp only [Ut,Bool.and_eq_true,decide_eq_true_eq] at h
  show (Bool.rec false (W6 b H) (NE b x) : Bool) = true
  have : NE b x = true := by
   cases x with
   | dead => rfl
   | var cs => exact A7.2 h.1
   | row _ _ _ cs => exact A7.2 h.1
   | map es => exact Nat.ble_eq ▸ h.1
  rw [E7 h.2,this]
def P2 (base : Nat) (v : V) (H : Qa) (k : V → Qa → KR) (d : KR) : KR := match v with
 | .rs i ver sz off len => hgK H i fun b => match b with
  | .row v' sz' ag cs => Bool.rec d (Jn (Nat.sub (Ye H) base) H fun H' => Bool.rec d (k (.rs base ver sz off len) (.row v' sz' ag cs :: H')) (W6 base H')) (ZH (Nat.ble base i) (ZH (Nat.beq ver v') (Wv cs)))
  | _ => d
 | _ => d
def RB (base : Nat) (v : V) (H : Qa) (k : V → Qa → KR) (d : KR) : KR := Option.rec d (fun r => k r.1 r.2) (J6 base v H)
theorem Qff (base : Nat) (v : V) (H : Qa) (k : V → Qa → KR) (d : KR) : KLe (P2 base v H k d) (RB base v H k d) := by
 have none_ok : J6 base v H = none → KLe d (RB base v H k d) := fun h => by unfold RB; rw [h]; exact KLe.refl _
 unfold P2
 split
 ·rename_i i ver sz off len
  rw [Rb]
  refine BP fun b hb => ?_
  split
  ·rename_i v' sz' ag cs
   cases hc : ZH (Nat.ble base i) (ZH (Nat.beq ver v') (Wv cs)) with
   | false =>
    refine none_ok ?_
    simp only [J6,hb]
    rw [if_neg]
    rintro ⟨h1,h2,h3,_⟩
    have : ZH (Nat.ble base i) (ZH (Nat.beq ver v') (Wv cs)) = true := by
     rw [Yh,Yh,UJ]
     exact ⟨Nat.ble_eq ▸ h1,by rw [h2]; simp,h3⟩
    rw [this] at hc; cases hc
   | true =>
    obtain ⟨h1,h2⟩ := Yh.1 hc
    obtain ⟨h2,h3⟩ := Yh.1 h2
    have e1 : base ≤ i := Nat.le_of_ble_eq_true h1
    have e2 : ver = v' := Nat.eq_of_beq_eq_true h2
    rw [UJ] at h3
    intro z hz
    obtain ⟨_,hz⟩ := R3 hz
    rw [Z2] at hz
    simp only [Nat.sub_eq] at hz
    cases hB : W6 base (H.drop (H.length - base)) with
    | true =>
     rw [hB] at hz
     have hB' : KJ base H = true := Xm hB
     unfold RB
     simp only [J6,hb]
     rw [if_pos ⟨e1,e2,h3,hB'⟩]
     exact hz
    | false =>
     rw [hB] at hz
     refine none_ok ?_ z hz
     simp only [J6,hb]
     rw [if_neg]
     rintro ⟨_,_,_,h4⟩
     have := E7 h4
     rw [Jm,hB] at this; cases this
  ·rename_i hne
   refine none_ok ?_
   simp only [J6,hb]
   split
   ·rename_i v' sz' ag cs he
    injection he with he
    exact (hne _ _ _ _ he).elim
   ·rfl
 ·rename_i hne
  refine none_ok ?_
  cases v with
  | rs i ver sz off len => exact (hne _ _ _ _ _ rfl).elim
  | _ => rfl
def P1 (base : Nat) (v : V) (H : Qa) : KR := match v with
 | .tup [x,y] => P2 base x H (fun x' H' => Bool.rec (some (.ret v,H)) (some (.ret (.tup [x',y]),H')) (clB y)) (some (.ret v,H))
 | _ => P2 base v H (fun v' H' => some (.ret v',H')) (some (.ret v,H))
theorem Qme (base : Nat) (v : V) (H : Qa) : KLe (P1 base v H) (some (.ret (Wx base v H).1,(Wx base v H).2)) := by
 unfold P1
 split
 ·rename_i x y
  refine (Qff _ _ _ _ _).trans (KLe.of ?_)
  unfold RB
  cases ha : J6 base x H with
  | none => simp only [Wx,ha]
  | some r =>
   simp only [Wx,ha]
   rw [NL]
   cases y.clean <;> rfl
 ·rename_i hne
  refine (Qff _ _ _ _ _).trans (KLe.of ?_)
  unfold RB
  have : Wx base v H = match J6 base v H with
   | some r => r
   | none => (v,H) := by
   unfold Wx
   split
   ·rename_i x y
    exact (hne x y rfl).elim
   ·rfl
  rw [this]
  cases J6 base v H <;> rfl
def kRt (keep : Bool) (base : Nat) (v : V) (H : Qa) : KR := Bool.rec
 (RS H base 12 v fun v' => Bool.rec (some (.ret v,H)) (Jn (Nat.sub (Ye H) base) H fun H' => Bool.rec (some (.ret v,H)) (some (.ret v',H')) (W6 base H')) (okR v' base))
 (Bool.rec (P1 base v H) (Jn (Nat.sub (Ye H) base) H fun H' => Bool.rec (P1 base v H) (some (.ret v,H')) (W6 base H')) (okR v base)) keep
theorem QC {keep : Bool} {base : Nat} {v : V} {H : Qa} : KLe (kRt keep base v H) (rt keep base v H) := by
 rw [QcQ]
 unfold kRt Fl Kd
 have key : ∀ v' d d',KLe d' (some (.ret (Prod.fst (d : V × Qa)),d.2)) → KLe (Bool.rec d' (Jn (Nat.sub (Ye H) base) H fun H' => Bool.rec d' (some (.ret v',H')) (W6 base H')) (okR v' base)) (some (.ret (if v'.maxRef ≤ base ∧ KJ base H = true then (v',Jm H base) else d).1,(if v'.maxRef ≤ base ∧ KJ base H = true then (v',Jm H base) else d).2)) := by
  intro v' d d' hd
  cases ho : okR v' base with
  | true =>
   intro z hz
   obtain ⟨_,h⟩ := R3 hz
   rw [Z2] at h
   cases hB : W6 base (H.drop (H.length - base)) with
   | true =>
    have hB' : KJ base H = true := Xm hB
    rw [if_pos ⟨(Qfg _ _).1 ho,hB'⟩]
    simp only [Nat.sub_eq,hB] at h
    exact h
   | false =>
    rw [if_neg (fun hh => by have h3 := E7 hh.2; rw [Jm,hB] at h3; cases h3)]
    simp only [Nat.sub_eq,hB] at h
    exact hd z h
  | false =>
   rw [if_neg (fun h => by rw [(Qfg _ _).2 h.1] at ho; cases ho)]
   exact hd
 cases keep with
 | false =>
  refine (QgI H base 12 v _).trans ?_
  simp only [Bool.false_eq_true,if_false]
  show KLe ((frz H base 12 v).bind _) _
  cases hf : frz H base 12 v with
  | none => exact KLe.none _
  | some v' =>
   have : frz H base depth v = some v' := hf
   rw [this]
   exact key v' (v,H) _ (KLe.refl _)
 | true =>
  simp only [if_true]
  exact key v (Wx base v H) _ (Qme base v H)
abbrev Y9 := Qh → List V → Qa → KR
inductive KTr where
 | nil
 | nd (k : Nat) (v : Y9) (l r : KTr)
def KTr.get (t : KTr) (i : Nat) : Y9 := KTr.rec (fun _ _ _ => none) (fun k v _ _ gl gr => Bool.rec (Bool.rec gr gl (Nat.ble i k)) v (Nat.beq i k)) t
def BV (t : KTr) (n : Nat) : Qh := Nat.rec (motive := fun _ => Qh) (fun _ _ _ => none) (fun _ r f a H => t.get f r a H) n
def KOk (E : Qh) (f : Nat) (e : Y9) : Prop := ∀ r : Qh,(∀ f a H,KLe (r f a H) (E f a H)) → ∀ a H,KLe (e r a H) (E f a H)
def KTr.All (E : Qh) : KTr → Prop
 | .nil => True
 | .nd k v l r => KOk E k v ∧ KTr.All E l ∧ KTr.All E r
theorem Xu {E : Qh} : ∀ {t : KTr},t.All E → ∀ i,KOk E i (t.get i)
 | .nil,_,i => fun _ _ _ _ => KLe.none _
 | .nd k v l r,h,i => by
  show KOk E i (Bool.rec (Bool.rec (r.get i) (l.get i) (Nat.ble i k)) v (Nat.beq i k))
  cases hb : Nat.beq i k with
  | true => have : i = k := Nat.eq_of_beq_eq_true hb; rw [this]; exact h.1
  | false =>
   cases Nat.ble i k with
   | true => exact Xu h.2.1 i
   | false => exact Xu h.2.2 i
theorem QbE {E : Qh} {t : KTr} (h : t.All E) : ∀ n f a H,KLe (BV t n f a H) (E f a H)
 | 0,_,_,_ => KLe.none _
 | n + 1,f,a,H => Xu h f (BV t n) (QbE h n) a H
abbrev Qo := Nat → List V → Qa → KR
def Zl (g : Qo → Qo) (n : Nat) : Qo := Nat.rec (motive := fun _ => Qo) (fun _ _ _ => none) (fun _ s => g s) n
theorem Zm {g : Qo → Qo} {S : Qo} (h : ∀ s : Qo,(∀ i a H,KLe (s i a H) (S i a H)) → ∀ i a H,KLe (g s i a H) (S i a H)) : ∀ n i a H,KLe (Zl g n i a H) (S i a H)
 | 0,_,_,_ => KLe.none _
 | n + 1,i,a,H => h (Zl g n) (Zm h n) i a H
def fVL (l : List V) (k : List V → KR) : KR := List.rec (motive := fun _ => (List V → KR) → KR) (fun k => k []) (fun v _ ih k => Jj v fun v => ih fun l => k (v :: l)) l k
theorem QhE : ∀ (l : List V) (k : List V → KR),fVL l k = k l
 | [],k => rfl
 | v :: l,k => (JQ v fun v => fVL l fun l => k (v :: l)).trans (QhE l fun l => k (v :: l))
def kmv (a : List V) (H : Qa) (k : List V → Qa → KR) : KR := Option.rec none (fun p => Prod.rec (fun a H => fVL a fun a => Ku H [] fun H => k a H) p) (mvL a H)
def Kq (f : Nat) (e : Y9) : Y9 := fun r a H => Bool.rec (kmv a H fun a H => r f a H) (e r a H) (Wv a)
theorem VI {E : Qh} {f : Nat} {e : Y9} (hl : ∀ a H,Zd a = false → E f a H = Jt E f a H) (he : ∀ r : Qh,(∀ f a H,KLe (r f a H) (E f a H)) → ∀ a H,Zd a = true → KLe (e r a H) (E f a H)) : KOk E f (Kq f e) := fun r hr a H => by
 unfold Kq
 rw [UJ]
 cases hc : Zd a with
 | true => exact he r hr a H hc
 | false =>
  rw [hl a H hc]
  unfold kmv Jt
  cases mvL a H with
  | none => exact KLe.none _
  | some p => simp only [QhE,Uu,List.append_nil,Option.bind_some]; exact hr _ _ _
def Ei (H : Qa) (x : KR) : KR := match x with
 | some (.ret v,[]) => kif (clB v) (some (.ret v,H)) none
 | _ => none
def YI (f : Nat) (e : Y9) : Y9 := fun r a H => List.rec (e r a []) (fun _ _ _ => Bool.rec none (Ei H (r f a [])) (Wv a)) H
theorem VQ {E : Qh} {f : Nat} {e : Y9} (hl : ∀ a H,Zd a = true → H.isEmpty = false → E f a H = JV E f a H) (he : ∀ r : Qh,(∀ f a H,KLe (r f a H) (E f a H)) → ∀ a,KLe (e r a []) (E f a [])) : KOk E f (YI f e) := fun r hr a H => by
 cases H with
 | nil => exact he r hr a
 | cons b H =>
  show KLe (Bool.rec none (Ei (b :: H) (r f a [])) (Wv a)) _
  rw [UJ]
  cases hc : Zd a with
  | false => exact KLe.none _
  | true =>
   rw [hl a (b :: H) hc rfl]
   intro z hz
   have hz' : Ei (b :: H) (r f a []) = some z := hz
   unfold Ei at hz'
   split at hz'
   ·rename_i v hx
    obtain ⟨h1,h2⟩ := UH hz'
    rw [NL] at h1
    unfold JV
    rw [hr f a [] _ hx]
    simp only [Option.bind_some,Fe,h1,if_true]
    exact h2
   ·cases hz'
def Qt (i j : Nat) (x y : KR) : KR := Bool.rec y x (Nat.beq i j)
theorem QK {i j : Nat} {x y x' y' : KR} (h : KLe x x') (h' : KLe y y') : KLe (Qt i j x y) (Qt i j x' y') := by
 unfold Qt; cases Nat.beq i j
 ·exact h'
 ·exact h
def ar0 (f : Qa → KR) : List V → Qa → KR := fun a H => match a with | [] => f  H | _ => none
theorem QkX {f g : Qa → KR} (h : ∀  H,KLe (f  H) (g  H)) (a : List V) (H : Qa) : KLe (ar0 f a H) (ar0 g a H) := by unfold ar0; split <;> first | exact h  _ | exact KLe.none _
def ar1 (f : V → Qa → KR) : List V → Qa → KR := fun a H => match a with | [x0] => f x0 H | _ => none
theorem Fc {f g : V → Qa → KR} (h : ∀ x0 H,KLe (f x0 H) (g x0 H)) (a : List V) (H : Qa) : KLe (ar1 f a H) (ar1 g a H) := by unfold ar1; split <;> first | exact h _ _ | exact KLe.none _
def ar2 (f : V → V → Qa → KR) : List V → Qa → KR := fun a H => match a with | [x0,x1] => f x0 x1 H | _ => none
theorem YN {f g : V → V → Qa → KR} (h : ∀ x0 x1 H,KLe (f x0 x1 H) (g x0 x1 H)) (a : List V) (H : Qa) : KLe (ar2 f a H) (ar2 g a H) := by unfold ar2; split <;> first | exact h _ _ _ | exact KLe.none _
def ar3 (f : V → V → V → Qa → KR) : List V → Qa → KR := fun a H => match a with | [x0,x1,x2] => f x0 x1 x2 H | _ => none
theorem ZX {f g : V → V → V → Qa → KR} (h : ∀ x0 x1 x2 H,KLe (f x0 x1 x2 H) (g x0 x1 x2 H)) (a : List V) (H : Qa) : KLe (ar3 f a H) (ar3 g a H) := by unfold ar3; split <;> first | exact h _ _ _ _ | exact KLe.none _
def ar4 (f : V → V → V → V → Qa → KR) : List V → Qa → KR := fun a H => match a with | [x0,x1,x2,x3] => f x0 x1 x2 x3 H | _ => none
theorem YF {f g : V → V → V → V → Qa → KR} (h : ∀ x0 x1 x2 x3 H,KLe (f x0 x1 x2 x3 H) (g x0 x1 x2 x3 H)) (a : List V) (H : Qa) : KLe (ar4 f a H) (ar4 g a H) := by unfold ar4; split <;> first | exact h _ _ _ _ _ | exact KLe.none _
def ar5 (f : V → V → V → V → V → Qa → KR) : List V → Qa → KR := fun a H => match a with | [x0,x1,x2,x3,x4] => f x0 x1 x2 x3 x4 H | _ => none
theorem JI {f g : V → V → V → V → V → Qa → KR} (h : ∀ x0 x1 x2 x3 x4 H,KLe (f x0 x1 x2 x3 x4 H) (g x0 x1 x2 x3 x4 H)) (a : List V) (H : Qa) : KLe (ar5 f a H) (ar5 g a H) := by unfold ar5; split <;> first | exact h _ _ _ _ _ _ | exact KLe.none _
def ar6 (f : V → V → V → V → V → V → Qa → KR) : List V → Qa → KR := fun a H => match a with | [x0,x1,x2,x3,x4,x5] => f x0 x1 x2 x3 x4 x5 H | _ => none
theorem LS {f g : V → V → V → V → V → V → Qa → KR} (h : ∀ x0 x1 x2 x3 x4 x5 H,KLe (f x0 x1 x2 x3 x4 x5 H) (g x0 x1 x2 x3 x4 x5 H)) (a : List V) (H : Qa) : KLe (ar6 f a H) (ar6 g a H) := by unfold ar6; split <;> first | exact h _ _ _ _ _ _ _ | exact KLe.none _
def ar7 (f : V → V → V → V → V → V → V → Qa → KR) : List V → Qa → KR := fun a H => match a with | [x0,x1,x2,x3,x4,x5,x6] => f x0 x1 x2 x3 x4 x5 x6 H | _ => none
theorem TW {f g : V → V → V → V → V → V → V → Qa → KR} (h : ∀ x0 x1 x2 x3 x4 x5 x6 H,KLe (f x0 x1 x2 x3 x4 x5 x6 H) (g x0 x1 x2 x3 x4 x5 x6 H)) (a : List V) (H : Qa) : KLe (ar7 f a H) (ar7 g a H) := by unfold ar7; split <;> first | exact h _ _ _ _ _ _ _ _ | exact KLe.none _
def ar8 (f : V → V → V → V → V → V → V → V → Qa → KR) : List V → Qa → KR := fun a H => match a with | [x0,x1,x2,x3,x4,x5,x6,x7] => f x0 x1 x2 x3 x4 x5 x6 x7 H | _ => none
theorem QdF {f g : V → V → V → V → V → V → V → V → Qa → KR} (h : ∀ x0 x1 x2 x3 x4 x5 x6 x7 H,KLe (f x0 x1 x2 x3 x4 x5 x6 x7 H) (g x0 x1 x2 x3 x4 x5 x6 x7 H)) (a : List V) (H : Qa) : KLe (ar8 f a H) (ar8 g a H) := by unfold ar8; split <;> first | exact h _ _ _ _ _ _ _ _ _ | exact KLe.none _
def ar9 (f : V → V → V → V → V → V → V → V → V → Qa → KR) : List V → Qa → KR := fun a H => match a with | [x0,x1,x2,x3,x4,x5,x6,x7,x8] => f x0 x1 x2 x3 x4 x5 x6 x7 x8 H | _ => none
theorem AL {f g : V → V → V → V → V → V → V → V → V → Qa → KR} (h : ∀ x0 x1 x2 x3 x4 x5 x6 x7 x8 H,KLe (f x0 x1 x2 x3 x4 x5 x6 x7 x8 H) (g x0 x1 x2 x3 x4 x5 x6 x7 x8 H)) (a : List V) (H : Qa) : KLe (ar9 f a H) (ar9 g a H) := by unfold ar9; split <;> first | exact h _ _ _ _ _ _ _ _ _ _ | exact KLe.none _
def Kb (g : Qh → Nat → Qa → KR) : Y9 := fun r a H => match a with | [] => frc (Ye H) fun O => g r O  H | _ => none
theorem FO {E : Qh} {f : Nat} {g : Qh → Nat → Qa → KR} {g' : Nat → Qa → KR} (hE : ∀ H,E f [] H = g' H.length  H) (hg : ∀ r,(∀ f a H,KLe (r f a H) (E f a H)) → ∀ O  H,KLe (g r O  H) (g' O  H)) : KOk E f (Kb g) := fun r hr a H => by
 unfold Kb; split
 ·rw [Z7,Z2,hE]; exact hg r hr _  _
 ·exact KLe.none _
def Q8 (g : Qh → Nat → V → Qa → KR) : Y9 := fun r a H => match a with | [x0] => frc (Ye H) fun O => g r O x0 H | _ => none
theorem Ys {E : Qh} {f : Nat} {g : Qh → Nat → V → Qa → KR} {g' : Nat → V → Qa → KR} (hE : ∀ x0 H,E f [x0] H = g' H.length x0 H) (hg : ∀ r,(∀ f a H,KLe (r f a H) (E f a H)) → ∀ O x0 H,KLe (g r O x0 H) (g' O x0 H)) : KOk E f (Q8 g) := fun r hr a H => by
 unfold Q8; split
 ·rw [Z7,Z2,hE]; exact hg r hr _ _ _
 ·exact KLe.none _
def ZB (g : Qh → Nat → V → V → Qa → KR) : Y9 := fun r a H => match a with | [x0,x1] => frc (Ye H) fun O => g r O x0 x1 H | _ => none
theorem YQ {E : Qh} {f : Nat} {g : Qh → Nat → V → V → Qa → KR} {g' : Nat → V → V → Qa → KR} (hE : ∀ x0 x1 H,E f [x0,x1] H = g' H.length x0 x1 H) (hg : ∀ r,(∀ f a H,KLe (r f a H) (E f a H)) → ∀ O x0 x1 H,KLe (g r O x0 x1 H) (g' O x0 x1 H)) : KOk E f (ZB g) := fun r hr a H => by
 unfold ZB; split
 ·rw [Z7,Z2,hE]; exact hg r hr _ _ _ _
 ·exact KLe.none _
def KW (g : Qh → Nat → V → V → V → Qa → KR) : Y9 := fun r a H => match a with | [x0,x1,x2] => frc (Ye H) fun O => g r O x0 x1 x2 H | _ => none
theorem Dn {E : Qh} {f : Nat} {g : Qh → Nat → V → V → V → Qa → KR} {g' : Nat → V → V → V → Qa → KR} (hE : ∀ x0 x1 x2 H,E f [x0,x1,x2] H = g' H.length x0 x1 x2 H) (hg : ∀ r,(∀ f a H,KLe (r f a H) (E f a H)) → ∀ O x0 x1 x2 H,KLe (g r O x0 x1 x2 H) (g' O x0 x1 x2 H)) : KOk E f (KW g) := fun r hr a H => by
 unfold KW; split
 ·rw [Z7,Z2,hE]; exact hg r hr _ _ _ _ _
 ·exact KLe.none _
def WB (g : Qh → Nat → V → V → V → V → Qa → KR) : Y9 := fun r a H => match a with | [x0,x1,x2,x3] => frc (Ye H) fun O => g r O x0 x1 x2 x3 H | _ => none
theorem Qd3 {E : Qh} {f : Nat} {g : Qh → Nat → V → V → V → V → Qa → KR} {g' : Nat → V → V → V → V → Qa → KR} (hE : ∀ x0 x1 x2 x3 H,E f [x0,x1,x2,x3] H = g' H.length x0 x1 x2 x3 H) (hg : ∀ r,(∀ f a H,KLe (r f a H) (E f a H)) → ∀ O x0 x1 x2 x3 H,KLe (g r O x0 x1 x2 x3 H) (g' O x0 x1 x2 x3 H)) : KOk E f (WB g) := fun r hr a H => by
 unfold WB; split
 ·rw [Z7,Z2,hE]; exact hg r hr _ _ _ _ _ _
 ·exact KLe.none _
theorem Qnw {E : Qh} {f : Nat} {g : Qh → Nat → V → Qa → KR} {g' : Nat → V → Qa → KR} (hE : ∀ x0 H,Zd [x0] = true → E f [x0] H = g' H.length x0 H) (hg : ∀ r,(∀ f a H,KLe (r f a H) (E f a H)) → ∀ O x0 H,KLe (g r O x0 H) (g' O x0 H)) (hl : ∀ a H,Zd a = false → E f a H = Jt E f a H) : KOk E f (Kq f (Q8 g)) := VI hl fun r hr a H hc => by
 unfold Q8; split
 ·rw [Z7,Z2,hE _ _ hc]; exact hg r hr _ _ _
 ·exact KLe.none _
theorem Bj {E : Qh} {f : Nat} {g : Qh → Nat → V → Qa → KR} {g' : Nat → V → Qa → KR} (hE : ∀ x0,E f [x0] [] = g' 0 x0 []) (hg : ∀ r,(∀ f a H,KLe (r f a H) (E f a H)) → ∀ O x0 H,KLe (g r O x0 H) (g' O x0 H)) (hl : ∀ a H,Zd a = true → H.isEmpty = false → E f a H = JV E f a H) : KOk E f (YI f (Q8 g)) := VQ hl fun r hr a => by
 unfold Q8; split
 ·rw [Z7,Z2,hE]; exact hg r hr _ _ _
 ·exact KLe.none _
theorem QnF {E : Qh} {f : Nat} {g : Qh → Nat → V → V → Qa → KR} {g' : Nat → V → V → Qa → KR} (hE : ∀ x0 x1,E f [x0,x1] [] = g' 0 x0 x1 []) (hg : ∀ r,(∀ f a H,KLe (r f a H) (E f a H)) → ∀ O x0 x1 H,KLe (g r O x0 x1 H) (g' O x0 x1 H)) (hl : ∀ a H,Zd a = true → H.isEmpty = false → E f a H = JV E f a H) : KOk E f (YI f (ZB g)) := VQ hl fun r hr a => by
 unfold ZB; split
 ·rw [Z7,Z2,hE]; exact hg r hr _ _ _ _
 ·exact KLe.none _
end
end Go.Ev
end
section
namespace Go.Ev
noncomputable section
def Be (t : KTr) (f : Nat) (e : Y9) (n : Nat) : Qh := Nat.rec (motive := fun _ => Qh) (fun _ _ _ => none) (fun _ r g a H => Bool.rec (t.get g r a H) (e r a H) (Nat.beq g f)) n
theorem QxG {E : Qh} {t : KTr} {f : Nat} {e : Y9} (h : t.All E) (he : KOk E f e) : ∀ n g a H,KLe (Be t f e n g a H) (E g a H)
 | 0,_,_,_ => KLe.none _
 | n + 1,g,a,H => by
  show KLe (Bool.rec (t.get g (Be t f e n) a H) (e (Be t f e n) a H) (Nat.beq g f)) _
  cases hb : Nat.beq g f with
  | true => have : g = f := Nat.eq_of_beq_eq_true hb; rw [this]; exact he (Be t f e n) (QxG h he n) a H
  | false => exact Xu h g (Be t f e n) (QxG h he n) a H
theorem QxL : ∀ {x y : List V},JY x y = true → x = y
 | [],[],_ => rfl
 | [],_ :: _,h => by simp [JY] at h
 | _ :: _,[],h => by simp [JY] at h
 | x :: xs,y :: ys,h => by
  simp only [JY,Bool.and_eq_true] at h
  rw [V.beq_eq h.1,QxL h.2]
def QxK (args : List V) (v : V) : Y9 := fun _ a H => kif (QlZ a args) (some (.ret v,H)) none
theorem QxN {E : Qh} {f : Nat} {args : List V} {v : V} (h : ∀ H,E f args H = some (.ret v,H)) : KOk E f (QxK args v) := fun r hr a H => J3 fun hb => by
 rw [QxL (Nj a args hb),h]; exact KLe.refl _
theorem QxQ {E : Qh} {f : Nat} {args : List V} {v : V} (hi : ∀ a H,Zd a = true → H.isEmpty = false → E f a H = JV E f a H) (hc : Wv args = true) (hv : clB v = true) (h : E f args [] = some (.ret v,[])) (H : Qa) : E f args H = some (.ret v,H) := by
 cases H with
 | nil => exact h
 | cons b H =>
  rw [UJ] at hc; rw [NL] at hv
  rw [hi args (b :: H) hc rfl]
  unfold JV
  rw [h]
  simp only [Option.bind_some,Fe,hv,if_true]
end
end Go.Ev
end
