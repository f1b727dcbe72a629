/- Part of a proof: contracts and plain laws. -/
import Derived.Test.YtodpdjehjllhdaaGreatDoorZ01
import Derived.Lib.ItoaNum
set_option linter.unusedVariables false
set_option maxRecDepth 100000
set_option maxHeartbeats 20000000
namespace Go.Proofs.YtodpdjehjllhdaaGreatDoor
open Go.RowKit
theorem qo.mono{g:Nat}{code:List UInt8}{lo hi lo' hi':Int}{w:World}{e:Ending}{w':World}(h:qo g code lo hi w e w')(h1:lo'≤lo)(h2:hi≤hi'):qo g code lo' hi' w e w':=by
 obtain⟨k,he,h3,h4,h5⟩:=h;exact⟨k,he,by omega,by omega,h5⟩
theorem av(g:Nat)(code:List UInt8)(n:Int)(w:World)(hn:0<n)(hn2:n≤16777216)(hc:dI w g code):Calls Tryz.prog 67 #[.pointer (some ⟨g,0,none⟩),.int .i64 n] w (qo g code 0 (n-1) w):=by
 have HC:=xQ hc;clear hc;have hn0: ¬(n≤0):=by omega
 by_cases h256:n≤256;·go_enter Tryz.func67,Tryz.ntmps67;go_wp2_with fail;refine(fg g code w HC.out).mono ?_;rintro e w1 ⟨k,rfl,hk0,hk1,hce,hcur⟩;have HX:=xQ (xP hce hcur);clear hce hcur;have hm0:0≤k%n:=Int.emod_nonneg _ (by omega);have hm1:k%n<n:=Int.emod_lt_of_pos _ hn;have htm:k.tmod n=k%n:=Int.tmod_eq_emod_of_nonneg hk0;go_wp2_with fail;go_ret;exact⟨k%n,rfl,hm0,by omega,HX.out.1,HX.out.2⟩
 ·go_enter Tryz.func67,Tryz.ntmps67;go_wp2_with fail;refine(fg g code w HC.out).mono ?_;rintro e w1 ⟨k,rfl,hk0,hk1,hce,hcur⟩;have HX:=xQ (xP hce hcur);clear hce hcur;go_wp2_with fail;refine(fg g code w1 HX.out.2).mono ?_;rintro e w2 ⟨k2,rfl,hk20,hk21,hce,hcur⟩;have HX2:=xQ (xP (HX.out.1.trans hce) hcur);clear hce hcur;go_wp2_with fail;refine(fg g code w2 HX2.out.2).mono ?_;rintro e w3 ⟨k3,rfl,hk30,hk31,hce,hcur⟩;have HX3:=xQ (xP (HX2.out.1.trans hce) hcur);clear hce hcur;have hs0:0≤k*65536+k2*256+k3:=by omega
  have hm0:0≤(k*65536+k2*256+k3)%n:=Int.emod_nonneg _ (by omega);have hm1:(k*65536+k2*256+k3)%n<n:=Int.emod_lt_of_pos _ hn;have htm:(k*65536+k2*256+k3).tmod n=(k*65536+k2*256+k3)%n:=Int.tmod_eq_emod_of_nonneg hs0;go_wp2_with fail;go_ret;exact⟨_,rfl,hm0,by omega,HX3.out.1,HX3.out.2⟩
theorem cD(g:Nat)(code:List UInt8)(n:Int)(w:World)(hn:0<n)(hn2:n≤16777216)(hc:dI w g code):Calls Tryz.prog 131 #[.pointer (some ⟨g,0,none⟩),.int .i64 n] w (fun e w'=> ∃b:Bool,e=.returned (.bool b)∧Ce g w w'∧dI w' g code):=by
 go_enter Tryz.func131,Tryz.ntmps131;go_wp2_with fail;refine(av g code n w hn hn2 hc).mono ?_;rintro e w1 ⟨k,rfl,hk0,hk1,hce,hcur⟩;have HX:=xQ (xP hce hcur);clear hce hcur;go_wp2_with fail;go_ret;exact⟨_,rfl,HX.out.1,HX.out.2⟩
def wk(g:Nat)(code:List UInt8)(l:List Int)(w:World)(e:Ending)(w':World):Prop:= ∃k:Int,e=.returned (.int .i64 k)∧k∈l∧Ce g w w'∧dI w' g code
theorem ke(g:Nat)(code:List UInt8)(b n:Nat)(t:TypeId)(l:List Int)(w:World)(hb:ah w b t (l.map (Value.int .i64)).toArray)(hbg:b≠g)(hn:n=l.length)(hl:0<n)(hl2:(n:Int)≤16777216)(hc:dI w g code):Calls Tryz.prog 132 #[.pointer (some ⟨g,0,none⟩),.slice (some ⟨b,0,none⟩) n n] w (wk g code l w):=by
 subst hn;have HB:=xQ hb;clear hb;go_enter Tryz.func132,Tryz.ntmps132;go_wp2_with fail;refine(av g code l.length w (by omega) (by omega) hc).mono ?_;rintro e w1 ⟨k,rfl,hk0,hk1,hce,hcur⟩;obtain⟨j,rfl⟩: ∃j:Nat,k=j:=⟨k.toNat,by omega⟩;have hj:j<l.length:=by omega
 have hB1:=hce.dc HB.out hbg;have hcell:w1.cell? ⟨b,j,none⟩=some (.int .i64 l[j]):=by rw[hB1.cell j];simp[hj]
 have hjn:(j:Int)<l.length:=by omega
 have HX:=xQ (xP hce hcur);clear hce hcur hB1;go_wp2_with fail;go_ret;exact⟨l[j],rfl,List.getElem_mem hj,HX.out.1,HX.out.2⟩
theorem oI(g:Nat)(code:List UInt8)(b n:Nat)(t:TypeId)(l:List Int)(lo hi:Int)(w:World)(hb:ah w b t (l.map (Value.int .i64)).toArray)(hbg:b≠g)(hn:n=l.length)(hl:0<n)(hl2:(n:Int)≤16777216)(hr: ∀x∈l,lo≤x∧x≤hi)(hc:dI w g code):Calls Tryz.prog 132 #[.pointer (some ⟨g,0,none⟩),.slice (some ⟨b,0,none⟩) n n] w (qo g code lo hi w):=(ke g code b n t l w hb hbg hn hl hl2 hc).mono fun _ _ ⟨k,h1,h2,h3⟩=>⟨k,h1,(hr k h2).1,(hr k h2).2,h3⟩
def xf(g:Nat)(code:List UInt8)(l:List ByteArray)(w:World)(e:Ending)(w':World):Prop:= ∃s:ByteArray,e=.returned (.string s)∧s∈l∧Ce g w w'∧dI w' g code
theorem om(g:Nat)(code:List UInt8)(b n:Nat)(t:TypeId)(l:List ByteArray)(w:World)(hb:ah w b t (l.map Value.string).toArray)(hbg:b≠g)(hn:n=l.length)(hl:0<n)(hl2:(n:Int)≤16777216)(hc:dI w g code):Calls Tryz.prog 181 #[.pointer (some ⟨g,0,none⟩),.slice (some ⟨b,0,none⟩) n n] w (xf g code l w):=by
 subst hn;have HB:=xQ hb;clear hb;go_enter Tryz.func181,Tryz.ntmps181;go_wp2_with fail;refine(av g code l.length w (by omega) (by omega) hc).mono ?_;rintro e w1 ⟨k,rfl,hk0,hk1,hce,hcur⟩;obtain⟨j,rfl⟩: ∃j:Nat,k=j:=⟨k.toNat,by omega⟩;have hj:j<l.length:=by omega
 have hB1:=hce.dc HB.out hbg;have hcell:w1.cell? ⟨b,j,none⟩=some (.string l[j]):=by rw[hB1.cell j];simp[hj]
 have hjn:(j:Int)<l.length:=by omega
 have HX:=xQ (xP hce hcur);clear hce hcur hB1;go_wp2_with fail;go_ret;exact⟨l[j],rfl,List.getElem_mem hj,HX.out.1,HX.out.2⟩
theorem tz(g:Nat)(code:List UInt8)(w:World)(hc:dI w g code):Calls Tryz.prog 178 #[.pointer (some ⟨g,0,none⟩)] w (qo g code 0 1000000000000000 w):=by
 go_enter Tryz.func178,Tryz.ntmps178;go_wp2_with fail;refine(av g code 5 w (by omega) (by omega) hc).mono ?_;rintro e w1 ⟨k,rfl,hk0,hk1,hce,hcur⟩;have hcl:=hcur.lt;have HX:=xQ (xP hce hcur);clear hce hcur;have hk:k=0∨k=1∨k=2∨k=3∨k=4:=by omega
 rcases hk with rfl|rfl|rfl|rfl|rfl;·go_wp2_with fail;refine(av g code 70000 w1 (by omega) (by omega) HX.out.2).mono ?_;rintro e w2 ⟨k,rfl,hk0,hk1,hce,hcur⟩;have HY:=xQ (xP (HX.out.1.trans hce) hcur);clear hce hcur;go_wp2_with fail;go_ret;exact⟨k,rfl,hk0,by omega,HY.out.1,HY.out.2⟩
 ·go_wp2_with fail;refine(oI g code w1.heap.size 9 3 [0,1,9,10,255,256,65535,65536,1000000000000000] 0 1000000000000000 _ (ah.new w1 _ _) (by omega) rfl (by omega) (by omega) (by decide) (HX.out.2.below (ab (af w1) _))).mono ?_;rintro e w2 ⟨k,rfl,hk0,hk1,hce,hcur⟩;have HY:=xQ (xP ((HX.out.1.add _ (by omega)).trans hce) hcur);clear hce hcur;go_wp2_with fail;go_ret;exact⟨k,rfl,hk0,by omega,HY.out.1,HY.out.2⟩
 ·go_wp2_with fail;refine(av g code 1000000 w1 (by omega) (by omega) HX.out.2).mono ?_;rintro e w2 ⟨k,rfl,hk0,hk1,hce,hcur⟩;have HY:=xQ (xP (HX.out.1.trans hce) hcur);clear hce hcur;go_wp2_with fail;refine(av g code 1000000 w2 (by omega) (by omega) HY.out.2).mono ?_;rintro e w3 ⟨k2,rfl,hk20,hk21,hce,hcur⟩;have HZ:=xQ (xP (HY.out.1.trans hce) hcur);clear hce hcur;have hm0:0≤k*k2:=Int.mul_nonneg hk0 hk20;have hm1:k*k2≤999999*999999:=Int.mul_le_mul hk1 hk21 hk20 (by omega);go_wp2_with fail;go_ret;exact⟨k*k2,rfl,hm0,by omega,HZ.out.1,HZ.out.2⟩
 ·go_wp2_with fail;refine(av g code 50 w1 (by omega) (by omega) HX.out.2).mono ?_;rintro e w2 ⟨k,rfl,hk0,hk1,hce,hcur⟩;have HY:=xQ (xP (HX.out.1.trans hce) hcur);clear hce hcur;obtain⟨j,rfl⟩: ∃j:Nat,k=j:=⟨k.toNat,by omega⟩;go_wp2_with fail;go_ret;have hp:(2:Nat)^j≤2^49:=Nat.pow_le_pow_right (by decide) (by omega);have hp0:0<(2:Nat)^j:=Nat.pow_pos (by decide);have hp2:((2^j:Nat):Int)=(2:Int)^j:=by simp
  have hw:wrap64 ((2:Int)^j)=((2^j:Nat):Int):=by unfold wrap64;omega
  exact⟨((2^j:Nat):Int),by rw[←hw];rfl,by omega,by omega,HY.out.1,HY.out.2⟩
 ·go_wp2_with fail;refine(av g code 30 w1 (by omega) (by omega) HX.out.2).mono ?_;rintro e w2 ⟨k,rfl,hk0,hk1,hce,hcur⟩;have HY:=xQ (xP (HX.out.1.trans hce) hcur);clear hce hcur;go_wp2_with fail;go_ret;exact⟨k,rfl,hk0,by omega,HY.out.1,HY.out.2⟩
section
section
variable {α : Type} (lt : α → α → Bool)
structure jm : Prop where
  irr : ∀ a, lt a a = false
  pH : ∀ a b, lt a b = true → lt b a = false
  le_trans : ∀ a b c, lt b a = false → lt c b = false → lt c a = false
def bU(l:List α):Prop:=l.Pairwise fun a b=>lt b a=false
def cI(x:α):List α→List α|[]=>[x]|y::ys=>if lt x y then y::cI x ys else x::y::ys
def bQ(q:List α)(x:α):List α:=(cI lt x q.reverse).reverse
def ao:List α→List α→List α|q,[]=>q|q,x::xs=>ao (bQ lt q x) xs
theorem iz(x:α): ∀l,(cI lt x l).Perm (x::l)|[]=>.refl _|y::ys=>by rw[cI];split;(·exact((iz x ys).cons y).trans (.swap x y ys));·exact .refl _
theorem pE(q:List α)(x:α):(bQ lt q x).Perm (q++[x]):=by
 unfold bQ;refine(List.reverse_perm _).trans ((iz lt x _).trans ?_);refine((List.reverse_perm q).cons x).trans ?_;exact(List.perm_append_comm (l₁:=[x]) (l₂:=q))
theorem bS: ∀(xs q:List α),(ao lt q xs).Perm (q++xs)|[],q=>by simp[ao]|x::xs,q=>by rw[ao];refine(bS xs _).trans ?_;have:=(pE lt q x).append_right xs;simpa using this
variable {lt}
theorem mR(O:jm lt)(x:α): ∀l,l.Pairwise (fun a b=>lt a b=false)→(cI lt x l).Pairwise (fun a b=>lt a b=false)|[],_=>by simp[cI]|y::ys,h=>by rw[cI];rw[List.pairwise_cons] at h;split;(·rename_i hx;rw[List.pairwise_cons];refine⟨fun b hb=> ?_,mR O x ys h.2⟩;rcases List.mem_cons.1 ((iz lt x ys).mem_iff.1 hb) with e|e;(·rw[e];exact O.pH _ _ hx);·exact h.1 b e);·rename_i hx;(have hx':lt x y=false:=by simpa using hx);rw[List.pairwise_cons];refine⟨fun b hb=> ?_,List.pairwise_cons.2 h⟩;rcases List.mem_cons.1 hb with e|e;(·rw[e];exact hx');·exact O.le_trans b y x (h.1 b e) hx'
theorem qG(O:jm lt){q:List α}(x:α)(h:bU lt q):bU lt (bQ lt q x):=by
 unfold bU bQ;rw[List.pairwise_reverse];refine mR O x _ ?_;rw[List.pairwise_reverse];exact h
theorem fj(O:jm lt): ∀(xs q:List α),bU lt q→bU lt (ao lt q xs)|[],q,h=>h|x::xs,q,h=>fj O xs _ (qG O x h)
theorem bU.append(O:jm lt){a b:List α}:bU lt (a++b)↔bU lt a∧bU lt b∧ ∀x∈a,∀y∈b,lt y x=false:=List.pairwise_append
theorem bU.nil:bU lt []:=List.Pairwise.nil
theorem bU.le_last(O:jm lt){a:List α}{z:α}(h:bU lt (a++[z])): ∀x∈a++[z],lt z x=false:=by
 rw[bU.append O] at h;intro x hx;rcases List.mem_append.1 hx with hx|hx;·exact h.2.2 x hx z (by simp)
 ·rw[List.mem_singleton.1 hx];exact O.irr z
theorem bU.ka(O:jm lt){a:List α}{z:α}(h:bU lt (z::a)): ∀x∈z::a,lt x z=false:=by
 intro x hx;rcases List.mem_cons.1 hx with hx|hx;·rw[hx];exact O.irr z
 ·exact(List.pairwise_cons.1 h).1 x hx
theorem bU.meet(O:jm lt){a b:List α}(ha:bU lt a)(hb:bU lt b)(h: ∀x y,a.getLast? =some x→b.head? =some y→lt y x=false): ∀x∈a,∀y∈b,lt y x=false:=by
 intro x hx y hy;have hane:a≠[]:=List.ne_nil_of_mem hx;cases b with|nil=>simp at hy|cons z b=>have h1:=h (a.getLast hane) z (List.getLast?_eq_some_getLast hane) rfl;(have h2:lt (a.getLast hane) x=false:=by have e:=List.dropLast_concat_getLast hane;exact bU.le_last O (a:=a.dropLast) (z:=a.getLast hane) (by rw[e];exact ha) x (by rw[e];exact hx));have h3:=bU.ka O hb y hy;exact O.le_trans x (a.getLast hane) y h2 (O.le_trans _ z _ h1 h3)
theorem tS(O:jm lt){X1 X2 Y1 Y2 Z1 Z2:List α}(hX:bU lt (X1++X2))(hY:bU lt (Y1++Y2))(h1: ∀x y,X1.getLast? =some x→Y2.head? =some y→lt y x=false)(h2: ∀x y,Y1.getLast? =some x→X2.head? =some y→lt y x=false)(p1:Z1.Perm (X1++Y1))(p2:Z2.Perm (X2++Y2))(s1:bU lt Z1)(s2:bU lt Z2):bU lt (Z1++Z2)∧(Z1++Z2).Perm (X1++X2++(Y1++Y2)):=by
 have hX':=(bU.append O).1 hX;have hY':=(bU.append O).1 hY;refine⟨(bU.append O).2 ⟨s1,s2,fun x hx y hy=> ?_⟩,?_⟩
 ·rcases List.mem_append.1 (p1.mem_iff.1 hx) with hx|hx<;>rcases List.mem_append.1 (p2.mem_iff.1 hy) with hy|hy;·exact hX'.2.2 x hx y hy
  ·exact bU.meet O hX'.1 hY'.2.1 h1 x hx y hy
  ·exact bU.meet O hY'.1 hX'.2.1 h2 x hx y hy
  ·exact hY'.2.2 x hx y hy
 ·refine(p1.append p2).trans ?_;rw[List.append_assoc,List.append_assoc];refine List.Perm.append_left X1 ?_;rw[←List.append_assoc,←List.append_assoc];exact List.Perm.append_right Y2 List.perm_append_comm
theorem pV(O:jm lt)(hE: ∀a b,lt a b=false→lt b a=false→a=b): ∀{a b:List α},a.Perm b→bU lt a→bU lt b→a=b|[],b,hp,_,_=>(List.nil_perm.1 hp).symm|x::a,[],hp,_,_=>absurd hp.length_eq (by simp)|x::a,y::b,hp,ha,hb=>by have h1:=bU.ka O ha;have h2:=bU.ka O hb;have e:x=y:=hE x y (h2 x (hp.mem_iff.1 (by simp))) (h1 y (hp.mem_iff.2 (by simp)));subst e;rw[pV O hE (List.Perm.cons_inv hp) (List.pairwise_cons.1 ha).2 (List.pairwise_cons.1 hb).2]
end
end
section
def gB{α:Type}[DecidableEq α](lt:α→α→Bool):List α→List α→Bool|[],[]=>false|[],_::_=>true|_::_,[]=>false|a::p,b::q=>if a=b then gB lt p q else lt a b
section
variable {α : Type} {lt : α → α → Bool}
structure tI (lt : α → α → Bool) : Prop where
  irr : ∀ a, lt a a = false
  trans : ∀ a b c, lt a b = true → lt b c = true → lt a c = true
  tot : ∀ a b, a ≠ b → lt a b = true ∨ lt b a = true
theorem tI.pH(O:tI lt)(a b:α)(h:lt a b=true):lt b a=false:=by
 rw[Bool.eq_false_iff];intro h2;have:=O.trans a b a h h2;rw[O.irr] at this;cases this
variable [DecidableEq α]
theorem tI.uniq(O:tI lt)(a b:α)(h:lt a b=false)(h2:lt b a=false):a=b:=by
 by_cases e:a=b;·exact e
 ·rcases O.tot a b e with h3|h3;·rw[h] at h3;cases h3
  ·rw[h2] at h3;cases h3
theorem tI.oZ(O:tI lt):jm lt:=⟨O.irr,O.pH,fun a b c h1 h2=>by by_cases e:a=b;(·rw[e];exact h2);·by_cases e2:b=c;(·rw[←e2];exact h1);·rcases O.tot a b e with h3|h3;(·rcases O.tot b c e2 with h4|h4;(·exact O.pH _ _ (O.trans a b c h3 h4));·rw[h2] at h4;cases h4);·rw[h1] at h3;cases h3⟩
theorem qT (O : tI lt) : tI (gB lt) := by
  refine ⟨fun a => ?_, fun a => ?_, fun a => ?_⟩
  · induction a with
    | nil => rfl
    | cons a p ih => rw [gB, if_pos rfl]; exact ih
  · induction a with
    | nil =>
      intro b c h1 h2
      cases b with
      | nil => cases c with
        | nil => exact h1
        | cons c r => rfl
      | cons b q => cases c with
        | nil => cases h2
        | cons c r => rfl
    | cons a p ih =>
      intro b c h1 h2
      cases b with
      | nil => cases h1
      | cons b q => cases c with
        | nil => cases h2
        | cons c r =>
          rw [gB] at h1 h2 ⊢
          by_cases e1 : a = b
          · rw [if_pos e1] at h1
            by_cases e2 : b = c
            · rw [if_pos e2] at h2; rw [if_pos (e1.trans e2)]; exact ih q r h1 h2
            · rw [if_neg e2] at h2; rw [if_neg (by rw [e1]; exact e2), e1]; exact h2
          · rw [if_neg e1] at h1
            by_cases e2 : b = c
            · rw [if_neg (by rw [← e2]; exact e1), ← e2]; exact h1
            · rw [if_neg e2] at h2
              have h3 := O.trans a b c h1 h2
              rw [if_neg (fun e => by rw [e, O.irr] at h3; cases h3)]; exact h3
  · induction a with
    | nil => intro b h; cases b with
      | nil => exact absurd rfl h
      | cons b q => exact .inl rfl
    | cons a p ih =>
      intro b h
      cases b with
      | nil => exact .inr rfl
      | cons b q =>
        rw [gB, gB]
        by_cases e1 : a = b
        · rw [if_pos e1, if_pos e1.symm]; exact ih q (fun e => h (by rw [e1, e]))
        · rw [if_neg e1, if_neg (fun e => e1 e.symm)]; exact O.tot a b e1
end
def kS(a b:UInt8):Bool:=decide (a.toNat<b.toNat)
theorem rq:tI kS:=by
 refine⟨fun a=>by simp[kS],fun a b c h1 h2=> ?_,fun a b h=> ?_⟩;·simp only[kS,decide_eq_true_eq] at*;omega
 ·simp only[kS,decide_eq_true_eq];have:a.toNat≠b.toNat:=fun e=>h (UInt8.toNat_inj.1 e);omega
def dB(a b:List UInt8):Bool:=gB kS a b
theorem ir:tI dB:=qT rq
def jv(a b:GStep):Bool:=decide (a.at_<b.at_)||(decide (a.at_=b.at_)&&(a.name&& !b.name))
theorem rh:tI jv:=by
 refine⟨fun a=>by simp[jv],fun a b c h1 h2=> ?_,fun a b h=> ?_⟩
 ·simp only[jv,Bool.or_eq_true,Bool.and_eq_true,decide_eq_true_eq,Bool.not_eq_true'] at*;rcases h1 with h1|⟨h1,h3,h4⟩
  ·rcases h2 with h2|⟨h2,h5,h6⟩;·exact .inl (by omega)
   ·exact .inl (by omega)
  ·rcases h2 with h2|⟨h2,h5,h6⟩;·exact .inl (by omega)
   ·rw[h4] at h5;cases h5
 ·simp only[jv,Bool.or_eq_true,Bool.and_eq_true,decide_eq_true_eq,Bool.not_eq_true'];obtain⟨i,n⟩:=a;obtain⟨j,m⟩:=b;simp only at*;by_cases e:i=j;·subst e;cases n<;>cases m<;>simp_all
  ·omega
theorem kJ{a b:GStep}(h:a≠b):jv a b=(decide (a.at_<b.at_)||(decide (a.at_=b.at_)&&a.name)):=by
 obtain⟨i,n⟩:=a;obtain⟨j,m⟩:=b;unfold jv;simp only;by_cases e:i=j;·subst e;cases n<;>cases m<;>simp_all
 ·simp[e]
def cP(a b:List GStep):Bool:=gB jv a b
theorem ew:tI cP:=qT rh
def ak(a b:ag):Bool:=if a.p=b.p then decide (a.kind<b.kind) else cP a.p b.p
theorem cO:tI ak:=by
 refine⟨fun a=>by simp[ak],fun a b c h1 h2=> ?_,fun a b h=> ?_⟩
 ·unfold ak at*;by_cases e1:a.p=b.p
  ·rw[if_pos e1] at h1;by_cases e2:b.p=c.p;·rw[if_pos e2] at h2;rw[if_pos (e1.trans e2)];simp only[decide_eq_true_eq] at*;omega
   ·rw[if_neg e2] at h2;rw[if_neg (by rw[e1];exact e2),e1];exact h2
  ·rw[if_neg e1] at h1;by_cases e2:b.p=c.p;·rw[if_neg (by rw[←e2];exact e1),←e2];exact h1
   ·rw[if_neg e2] at h2;have h3:=ew.trans _ _ _ h1 h2;rw[if_neg (fun e=>by rw[e,ew.irr] at h3;cases h3)];exact h3
 ·unfold ak;obtain⟨k,p⟩:=a;obtain⟨k',q⟩:=b;simp only;by_cases e:p=q;·subst e;rw[if_pos rfl,if_pos rfl];simp only[decide_eq_true_eq];have:k≠k':=fun e=>h (by rw[e]);omega
  ·rw[if_neg e,if_neg (fun e2=>e e2.symm)];exact ew.tot _ _ e
def a7(l:List ag):List ag:=ao ak [] l
theorem iX{l m:List ag}(hp:m.Perm l)(hs:bU ak m):m=a7 l:=by
 have h1:=bS ak l [];rw[List.nil_append] at h1;exact pV cO.oZ cO.uniq (hp.trans h1.symm) hs (fj cO.oZ l [] bU.nil)
theorem lL{l m:List ag}(hp:m.Perm l):a7 m=a7 l:=by
 refine iX ?_ (fj cO.oZ m [] bU.nil);have h1:=bS ak m [];rw[List.nil_append] at h1;exact h1.trans hp
theorem gY(l:List ag):(a7 l).length=l.length:=by
 have h1:=bS ak l [];rw[List.nil_append] at h1;exact h1.length_eq
end
section
mutual
def preG : aa → List aa
  | ⟨k, n, x, s, l⟩ => ⟨k, n, x, s, l⟩ :: preL l
def preL : List aa → List aa
  | [] => []
  | a :: l => preG a ++ preL l
end
theorem pv(v:aa):preG v=v::preL v.l:=by
 cases v;rw[preG]
theorem oH(a:aa): ∀(l:List aa),preL (l++[a])=preL l++preG a|[]=>by simp[preL]|b::l=>by simp[preL,oH a l]
mutual
theorem preG_len : ∀ (v : aa), (preG v).length ≤ 1 + bulkVal v
  | ⟨k, n, x, s, l⟩ => by rw [preG, bulkVal, List.length_cons]; have := preL_len l; omega
theorem preL_len : ∀ (l : List aa), (preL l).length ≤ bulkVals l
  | [] => by simp [preL]
  | a :: l => by rw [preL, bulkVals, List.length_append]; have := preG_len a; have := preL_len l; omega
end
section
variable {σ : Type} (st : σ → aa → σ × Bool)
mutual
def evG : aa → σ → σ × Bool
  | ⟨k, n, x, t, l⟩, s => match st s ⟨k, n, x, t, l⟩ with
    | (s1, true) => evL l s1
    | (s1, false) => (s1, false)
def evL : List aa → σ → σ × Bool
  | [], s => (s, true)
  | a :: l, s => match evG a s with
    | (s1, true) => evL l s1
    | (s1, false) => (s1, false)
end
theorem qZ{v:aa}{s s1:σ}(h:st s v=(s1,true)):evG st v s=evL st v.l s1:=by
 cases v;rw[evG,h]
theorem ox{v:aa}{s s1:σ}(h:st s v=(s1,false)):evG st v s=(s1,false):=by
 cases v;rw[evG,h]
theorem js : ∀ (l l' : List aa) (s : σ), evL st (l ++ l') s = match evL st l s with
    | (s1, true) => evL st l' s1
    | (s1, false) => (s1, false)
  | [], l', s => by simp [evL]
  | a :: l, l', s => by
    rw [List.cons_append, evL, evL]
    rcases evG st a s with ⟨s1, b⟩
    cases b
    · rfl
    · exact js l l' s1
theorem oh{l:List aa}{a:aa}{s s1 s2:σ}(h:evL st l s=(s1,true))(h2:evG st a s1=(s2,true)):evL st (l++[a]) s=(s2,true):=by
 rw[js,h];simp only;rw[evL,h2];simp[evL]
theorem uS{l:List aa}{k:Nat}{s s1 s2:σ}(hk:k<l.length)(h:evL st (l.take k) s=(s1,true))(h2:evG st l[k] s1=(s2,false)):evL st l s=(s2,false):=by
 have e:l=l.take k++(l[k]::l.drop (k+1)):=by rw[←List.drop_eq_getElem_cons hk,List.take_append_drop]
 rw[e,js,h];simp only;rw[evL,h2]
theorem jf{B:σ→Nat}: ∀(l:List aa),(∀i(hi:i<l.length),∀s,B (evG st l[i] s).1≤B s+1+bulkVal l[i])→ ∀s,B (evL st l s).1≤B s+bulkVals l|[],_,s=>by simp[evL]|a::l,h,s=>by have h0:=h 0 (by simp) s;simp only[List.getElem_cons_zero] at h0;have h1:=jf (B:=B) l (fun i hi s=>h (i+1) (by simpa using hi) s);rw[evL,bulkVals];revert h0;rcases evG st a s with⟨s1,b⟩;intro h0;cases b;(·simp only at h0 ⊢;omega);·simp only at h0 ⊢;have:=h1 s1;omega
theorem vv{B:σ→Nat}(hb: ∀s x,B (st s x).1≤B s+1)(v:aa): ∀s,B (evG st v s).1≤B s+1+bulkVal v:=by
 refine aa.ind (p:=fun v=> ∀s,B (evG st v s).1≤B s+1+bulkVal v) (fun v IH s=> ?_) v;have h0:=hb s v;rcases hq:st s v with⟨s1,b⟩;rw[hq] at h0;simp only at h0;cases b;·rw[ox st hq];simp only;omega
 ·rw[qZ st hq];have h1:=jf st (B:=B) v.l IH s1;rw[aw];omega
theorem vo{B:σ→Nat}(hb: ∀s x,B (st s x).1≤B s+1)(l:List aa)(s:σ):B (evL st l s).1≤B s+bulkVals l:=jf st l (fun i hi s=>vv st hb l[i] s) s
theorem tM{l:List aa}{k:Nat}(hk:k<l.length):bulkVals (l.take k)+(1+bulkVal l[k])≤bulkVals l:=by
 have h2:=gS (l.take (k+1)) (l.drop (k+1));rw[List.take_append_drop,List.take_succ_eq_append_getElem hk,gS] at h2;have h3:bulkVals [l[k]]=1+bulkVal l[k]:=by rw[aO];simp
 omega
end
end
def ey(n:Int):Nat:=Lib.nDigits n.natAbs
theorem o9: ∀k u,Lib.nDigits u≤k+1↔u<10^(k+1)|0,u=>by by_cases h:u<10;(·rw[Lib.nDigits_small h];simp;omega);·rw[Lib.nDigits_big h];(have h2:0<Lib.nDigits (u/10):=by by_cases h3:u/10<10;(·rw[Lib.nDigits_small h3];omega);·rw[Lib.nDigits_big h3];omega);simp;omega|k+1,u=>by by_cases h:u<10;(·rw[Lib.nDigits_small h];(have:10≤10^(k+1+1):=by have:=Nat.pow_le_pow_right (show 0<10 by omega) (show 1≤k+1+1 by omega);simpa using this);omega);·rw[Lib.nDigits_big h,Nat.add_le_add_iff_right,o9 k (u/10),Nat.pow_succ 10 (k+1)];omega
theorem iL(n:Int):ey n≤17↔ -100000000000000000<n∧n<100000000000000000:=by
 unfold ey;rw[o9 16];omega
theorem uq(n:Int):1≤ey n:=by
 unfold ey;by_cases h:n.natAbs<10;·rw[Lib.nDigits_small h];omega
 ·rw[Lib.nDigits_big h];omega
theorem vu{n:Int}(h:aX n):ey n≤19:=by
 obtain⟨h1,h2⟩:=h;unfold ey;rw[o9 18];omega
def nd(x:Int):Nat:=if x=0 then 0 else Lib.nDigits x.natAbs
theorem jA(x:Int):(x.tdiv 10).natAbs=x.natAbs/10:=by
 rw[Int.natAbs_tdiv];rfl
theorem sK{x:Int}(h:x≠0):nd x=nd (x.tdiv 10)+1:=by
 have h1:=jA x;unfold nd;rw[if_neg h];by_cases h2:x.natAbs<10;·rw[Lib.nDigits_small h2,if_pos (by omega)]
 ·rw[Lib.nDigits_big h2,if_neg (by omega),h1]
theorem vG(n:Int):ey n=1+nd (n.tdiv 10):=by
 by_cases h:n=0;·subst h;unfold ey nd;rw[Lib.nDigits_small (by decide)];rfl
 ·have h1:=sK h;have h2:nd n=ey n:=by unfold nd ey;rw[if_neg h]
  omega
def aT(n x:Int):Bool:=if x=0 then decide (-1000000000000000≤n∧n≤1000000000000000) else decide (-16≤x∧x≤ -1)&&decide (ey n≤17)&&decide (n.tmod 10≠0)
def a8(m e:Int):Bool:=if m=0 then decide (e=0) else decide (-65535≤m∧m≤65535)&&decide (m.tmod 2≠0)&&decide (-16≤e∧e≤45)&&(decide (e≤30)||decide (-65535≤m*2^(e-30).toNat∧m*2^(e-30).toNat≤65535))
def aE(m e:Int):Int×Int:=if 0≤e then(m*2^e.toNat,0) else(m*5^(-e).toNat,e)
def kW(a:Nat)(e:Int):Nat:=a*2^(-e).toNat
def eS(p:Nat)(e:Int):Nat:=p*2^e.toNat
def fQ(a p:Nat)(e:Int):Nat:=kW a e/eS p e
def tZ(a p:Nat)(e:Int):Nat:=kW a e%eS p e
def fw(a p:Nat)(e:Int):Prop:=fQ a p e≤65535∧ ∀e',-16≤e'→e'<e→65535<fQ a p e'
theorem mH(a p:Nat)(hp:0<p)(e:Int):fQ a p (e+1)=fQ a p e/2:=by
 unfold fQ kW eS;rcases Int.lt_or_le e 0 with h|h
 ·have h1:(-e).toNat=(-(e+1)).toNat+1:=by omega
  have h2:e.toNat=0:=by omega
  have h3:(e+1).toNat=0:=by omega
  rw[h1,h2,h3,Nat.pow_succ,Nat.pow_zero,Nat.mul_one,Nat.div_div_eq_div_mul,←Nat.mul_assoc];rw[Nat.mul_div_mul_right _ _ (by omega)]
 ·have h1:(-e).toNat=0:=by omega
  have h2:(-(e+1)).toNat=0:=by omega
  have h3:(e+1).toNat=e.toNat+1:=by omega
  rw[h1,h2,h3,Nat.pow_succ,Nat.pow_zero,Nat.mul_one,Nat.div_div_eq_div_mul,←Nat.mul_assoc]
def dq(a p:Nat)(e:Int):Nat:=if eS p e<2*tZ a p e∨(2*tZ a p e=eS p e∧fQ a p e%2=1) then fQ a p e+1 else fQ a p e
def dE:Nat→Int→Int→Int×Int|0,m,e=>(m,e)|f+1,m,e=>if m.tmod 2=0 then dE f (m.tdiv 2) (e+1) else(m,e)
def bw(m e:Int):Option (Int×Int):=if m=0 then some (0,0) else if a8 (dE 20 m e).1 (dE 20 m e).2 then some (dE 20 m e) else none
theorem gj{f:Nat}{m e:Int}(h:m.tmod 2=0):dE (f+1) m e=dE f (m.tdiv 2) (e+1):=by
 rw[dE,if_pos h]
theorem jY{m e:Int}(h:m.tmod 2≠0): ∀f,dE f m e=(m,e)|0=>rfl|f+1=>by rw[dE,if_neg h]
theorem lg(m:Int):(m.tdiv 2).natAbs=m.natAbs/2:=by
 rw[Int.natAbs_tdiv];rfl
theorem j7{m:Int}(h:m.tmod 2=0):m=2*m.tdiv 2:=by
 have:=Int.mul_tdiv_add_tmod m 2;omega
def iI:Nat→Nat→Nat→Int→Option Int|0,_,_,_=>none|f+1,a,p,e=>if fQ a p e≤65535 then some e else iI f a p (e+1)
theorem kh{a p:Nat}{e:Int}(h:fw a p e): ∀(f:Nat)(e0:Int),-16≤e0→e0≤e→e<e0+f→iI f a p e0=some e|0,e0,_,_,h3=>by omega|f+1,e0,h1,h2,h3=>by rw[iI];by_cases he:e0=e;(·subst he;rw[if_pos h.1]);·rw[if_neg (by have:=h.2 e0 h1 (by omega);omega)];exact kh h f (e0+1) (by omega) (by omega) (by omega)
def lf(n:Int)(m:Nat):Int:=if n<0 then-(m:Int) else m
theorem ky(n:Int)(m:Nat):(lf n m).natAbs=m:=by
 unfold lf;split<;>omega
def sC(n:Int)(p:Nat)(e:Int):Option (Int×Int):=bw (lf n (dq n.natAbs p e)) e
def eh(n x:Int):Option (Int×Int):=match iI 67 n.natAbs (10^(-x).toNat) (-16) with|some e=>sC n (10^(-x).toNat) e|none=>none
theorem qe{n x e:Int}(h:fw n.natAbs (10^(-x).toNat) e)(h0: -16≤e)(h1:e≤50):eh n x=sC n (10^(-x).toNat) e:=by
 unfold eh;rw[kh h 67 (-16) (by omega) h0 (by omega)]
theorem oD{a p:Nat}{e:Int}(h:fQ a p e≤65535):dq a p e≤65536:=by
 unfold dq;split<;>omega
theorem tG(a p:Nat)(e:Int):fQ a p e≤dq a p e:=by
 unfold dq;split<;>omega
theorem rT{a p:Nat}{e:Int}(hp:0<p)(h:fw a p e)(h0: -16<e):32768≤fQ a p e:=by
 have h1:=h.2 (e-1) (by omega) (by omega);have h2:=mH a p hp (e-1);rw[show e-1+1=e by omega] at h2;omega
theorem oM: ∀(f:Nat)(m e:Int),∃j:Nat,(dE f m e).2=e+j∧m=(dE f m e).1*2^j|0,m,e=>⟨0,by simp[dE],by simp[dE]⟩|f+1,m,e=>by rw[dE];split;(·rename_i h;obtain⟨j,h1,h2⟩:=oM f (m.tdiv 2) (e+1);refine⟨j+1,by rw[h1];omega,?_⟩;have h3:=j7 h;rw[Int.pow_succ,←Int.mul_assoc,←h2];omega);·exact⟨0,by simp,by simp⟩
theorem lx{m e:Int}(h0:32768≤m.natAbs)(he:31≤e):bw m e=none:=by
 unfold bw;rw[if_neg (by omega)];obtain⟨j,h1,h2⟩:=oM 20 m e;have h3:a8 (dE 20 m e).1 (dE 20 m e).2=false:=by rw[Bool.eq_false_iff];intro h;unfold a8 at h;generalize(dE 20 m e).1=m' at h h2;rw[h1] at h;split at h;(·rename_i h4;subst h4;simp at h2;omega);·simp only[Bool.and_eq_true,Bool.or_eq_true,decide_eq_true_eq] at h;obtain⟨_,h5⟩:=h;have h6:=h5.resolve_left (by omega);obtain⟨i,hi⟩: ∃i:Nat,(e+j-30).toNat=j+1+i:=⟨(e-31).toNat,by omega⟩;rw[hi,Int.pow_add,Int.pow_succ,←Int.mul_assoc,←Int.mul_assoc,←h2] at h6;(have h7:(m*2*2^i).natAbs=m.natAbs*2*2^i:=by rw[Int.natAbs_mul,Int.natAbs_mul,Int.natAbs_pow];rfl);have h8:0<2^i:=Nat.pow_pos (by omega);have h9:m.natAbs*2*1≤m.natAbs*2*2^i:=Nat.mul_le_mul_left _ h8;omega
 rw[h3];rfl
theorem oL: ∀(f:Nat)(m e:Int),m.natAbs<2^f→m≠0→dE (f+1) m e=dE f m e|0,m,e,h,h0=>by simp at h;omega|f+1,m,e,h,h0=>by by_cases hm:m.tmod 2=0;(·have h1:=lg m;have h2:=j7 hm;rw[gj hm,gj hm];rw[Nat.pow_succ] at h;exact oL f _ _ (by omega) (by omega));·rw[jY hm,jY hm]
theorem jE{n e:Int}:bw (lf n 65536) e=bw (lf n 32768) (e+1):=by
 have h1:(lf n 65536).tmod 2=0:=by unfold lf;split<;>rfl
 have h2:(lf n 65536).tdiv 2=lf n 32768:=by unfold lf;split<;>rfl
 have h3:dE 20 (lf n 65536) e=dE 19 (lf n 32768) (e+1):=by rw[gj h1,h2]
 have h4:dE 19 (lf n 32768) (e+1)=dE 20 (lf n 32768) (e+1):=(oL 19 _ _ (by rw[ky];decide) (by unfold lf;split<;>omega)).symm;unfold bw;have n1:lf n 65536≠0:=fun e=>by have:=ky n 65536;rw[e] at this;simp at this
 have n2:lf n 32768≠0:=fun e=>by have:=ky n 32768;rw[e] at this;simp at this
 rw[if_neg n1,if_neg n2,h3,h4]
theorem xH(A p:Nat)(hp:0<p):(p≤2*(A%p)→2*A/p=2*(A/p)+1∧2*A%p=2*(A%p)-p)∧(¬p≤2*(A%p)→2*A/p=2*(A/p)∧2*A%p=2*(A%p)):=by
 have h1:=Nat.div_add_mod A p;have h2:=Nat.mod_lt A hp;generalize A/p=q at h1 ⊢;generalize A%p=r at h1 h2 ⊢;refine⟨fun h=> ?_,fun h=> ?_⟩
 ·have e:2*A=(2*r-p)+(2*q+1)*p:=by(have:(2*q+1)*p=2*(p*q)+p:=by rw[Nat.add_mul,Nat.mul_assoc,Nat.mul_comm q p];omega);omega
  rw[e,Nat.add_mul_div_right _ _ hp,Nat.add_mul_mod_self_right,Nat.div_eq_of_lt (by omega),Nat.mod_eq_of_lt (by omega)];omega
 ·have e:2*A=2*r+(2*q)*p:=by(have:(2*q)*p=2*(p*q):=by rw[Nat.mul_assoc,Nat.mul_comm q p]);omega
  rw[e,Nat.add_mul_div_right _ _ hp,Nat.add_mul_mod_self_right,Nat.div_eq_of_lt (by omega),Nat.mod_eq_of_lt (by omega)];omega
end Go.Proofs.YtodpdjehjllhdaaGreatDoor
