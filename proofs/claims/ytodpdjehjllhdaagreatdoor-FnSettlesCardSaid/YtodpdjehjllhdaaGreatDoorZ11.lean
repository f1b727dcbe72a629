/- Part of a proof: contracts and plain laws. -/
import Derived.Test.YtodpdjehjllhdaaGreatDoorZ09
import Derived.Test.YtodpdjehjllhdaaGreatDoorZ10
set_option linter.unusedVariables false
set_option maxRecDepth 100000
set_option maxHeartbeats 20000000
namespace Go.Proofs.YtodpdjehjllhdaaGreatDoor
open Go.RowKit
def xn(g:Nat)(code:List UInt8)(w:World)(e:Ending)(w':World):Prop:= ∃(l:List Int) (A:Option Addr) (c:Nat),e=.returned (.slice A l.length c)∧l.length≤10∧aC w' w.heap.size 3 (.slice A l.length c) l∧Ce g w w'∧dI w' g code
theorem aH.ints(w:World): ∀(l:List Int),(∀x∈l,aX x)→aH w l [] (l.map (Value.int .i64))|[],_=>⟨rfl,rfl⟩|x::l,h=>⟨[],[],[.int .i64 x],l.map (Value.int .i64),rfl,rfl,⟨rfl,rfl,h x (by simp)⟩,aH.ints w l fun y hy=>h y (by simp[hy])⟩
theorem aC.xE(w:World)(t:TypeId)(base:Nat)(l:List Int)(h: ∀x∈l,aX x)(hl:l.length≤1000)(hb:base≤w.heap.size):aC (w.alloc (.cells (l.map (Value.int .i64)).toArray t)) base t (.slice (some ⟨w.heap.size,0,none⟩) l.length l.length) l:=⟨[],⟨l.map (Value.int .i64),World.ownsRow_lit w (l.map (Value.int .i64)).toArray l.length hb (by unfold maxLen;omega) (by rw[show aG.wd Int=1 from rfl];simp),aH.ints _ l h,by simp⟩,b7.nil _ _⟩
theorem lk(g:Nat)(code:List UInt8)(w:World)(hc:dI w g code):Calls Tryz.prog 64 #[.pointer (some ⟨g,0,none⟩)] w (xn g code w):=by
 have hg:=hc.lt;have HC0:=xQ hc;clear hc;go_enter Tryz.func64,Tryz.ntmps64;go_wp2_with fail;refine(av g code 4 _ (by omega) (by omega) (HC0.out.below (ab (af w) _))).mono ?_;rintro e w2 ⟨k,rfl,hk0,hk1,hce,hcur⟩;have hO:aC (α:=Int) (w.alloc (.cells #[] 3)) w.heap.size 3 (.slice (some ⟨w.heap.size,0,none⟩) 0 0) []:=aC.cX _ _ _ _ rfl (Nat.le_refl _);have HO:=xQ (hO.ce hce hg);clear hO;have hz2:w.heap.size≤w2.heap.size:=by have:=hce.size;simp at this;omega
 have HY:=xQ (xP ((Ce.of (ab (af w) _) (by omega)).trans hce) hcur);clear hce hcur;obtain⟨n,rfl⟩: ∃n:Nat,k=n:=⟨k.toNat,by omega⟩;have hn3:n≤3:=by omega
 go_wp2_with fail;go_loopg[3,4] (n+1) (fun gk u3 i wr=> ∃(ns:List Int),i=.int .i64 gk∧gk≤n+1∧ns.length+gk=n+1∧aC wr w.heap.size 3 u3 ns∧Ce g w wr∧dI wr g code∧w.heap.size≤wr.heap.size);case atStart=>exact⟨[],by first|rfl|go_num|(congr 1;omega),Nat.le_refl _,by simp,HO.out,HY.out.1,HY.out.2,hz2⟩
 case round=>
  obtain⟨ns,rfl,hgn,hns,hown,hce,hcur,hzr⟩:=hrel;have HS:=xQ (xP hown (xP hce hcur));clear hown hce hcur;by_cases hlt:0<gk
  ·have hi1:(0:Int)<gk:=by omega
   go_wp2_with fail;refine(av g code 4 wr (by omega) (by omega) HS.out.2.2).mono ?_;rintro e w3 ⟨x,rfl,hx0,hx1,hce,hcur⟩;have HO3:=xQ (HS.out.1.ce hce hg);have hz3:w.heap.size≤w3.heap.size:=Nat.le_trans hzr hce.size;have HS3:=xQ (xP (HS.out.2.1.trans hce) hcur);clear hce hcur;go_wp2_with(at_builtin;(refine az rfl _ _ 24 rfl (v:=u3) (u:=.slice (some ⟨w3.heap.size,0,none⟩) 1 1) (by rfl) (by rfl) (aK dN 24 _ w.heap.size 3 (.int .i64 0) 8 Tryz.underlying24 eL rfl (by decide) u3 ns [1+x] _ _ (HO3.out.alloc _) (jS ⟨by omega,by omega⟩) (by simp;omega) (by simp;unfold maxLen;omega) (by simp;omega)) ?_;rintro r5 w5 ⟨ho5,hbl5,hlc5,hg5⟩;have HO5:=xQ (xP ho5 (xP hbl5 (xP hlc5 hg5)));clear ho5 hbl5 hlc5 hg5));go_roundg(gk-1);case measure=>omega
   case rel=>have h5:=Ce.andthen (n:=w.heap.size) HS3.out (Below.trans ((Below.refl _ _).alloc hz3 _) HO5.out.2.1) (Nat.le_refl _) hg;refine⟨ns++[1+x],by congr 1;omega,by omega,by simp;omega,HO5.out.1,h5.1,h5.2,?_⟩;have:=HO5.out.2.1.size;simp at this;omega
  ·have hg0:gk=0:=by omega
   subst hg0;have hd: ¬((0:Int)<0):=by omega
   have hnl:ns.length≤4:=by omega
   go_wp2_with fail;refine(av g code 16 wr (by omega) (by omega) HS.out.2.2).mono ?_;rintro e w3 ⟨x,rfl,hx0,hx1,hce,hcur⟩;have HO3:=xQ (HS.out.1.ce hce hg);have hz3:w.heap.size≤w3.heap.size:=Nat.le_trans hzr hce.size;have HS3:=xQ (xP (HS.out.2.1.trans hce) hcur);clear hce hcur;by_cases h0:x=0;·subst h0;go_wp2_with fail;go_ret;have h5:=Ce.andthen (n:=w.heap.size) HS3.out ((Below.refl _ _).alloc hz3 (.cells #[] 3)) (Nat.le_refl _) hg;exact⟨[],_,_,rfl,by simp,aC.cX _ _ _ _ rfl hz3,h5.1,h5.2⟩
   ·by_cases h1:x=1;·subst h1;go_wp2_with fail;go_ret;have h5:=Ce.andthen (n:=w.heap.size) HS3.out ((Below.refl _ _).alloc hz3 (.cells #[.int .i64 1,.int .i64 2,.int .i64 3,.int .i64 4,.int .i64 1,.int .i64 2,.int .i64 3,.int .i64 4,.int .i64 1] 3)) (Nat.le_refl _) hg;refine⟨[1,2,3,4,1,2,3,4,1],_,_,rfl,by simp,?_,h5.1,h5.2⟩;exact aC.xE w3 3 w.heap.size [1,2,3,4,1,2,3,4,1] (fun x hx=>by simp at hx;unfold aX;omega) (by simp) hz3
    ·by_cases h2:x=2;·subst h2;go_wp2_with(at_builtin;(refine az rfl _ _ 24 rfl (v:=u3) (u:=.slice (some ⟨w3.heap.size,0,none⟩) 1 1) (by rfl) (by rfl) (aK dN 24 _ w.heap.size 3 (.int .i64 0) 8 Tryz.underlying24 eL rfl (by decide) u3 ns [5] _ _ (HO3.out.alloc _) (jS ⟨by omega,by omega⟩) (by simp;omega) (by simp;unfold maxLen;omega) (by simp;omega)) ?_;rintro r5 w5 ⟨ho5,hbl5,hlc5,hg5⟩;have HO5:=xQ (xP ho5 (xP hbl5 (xP hlc5 hg5)));clear ho5 hbl5 hlc5 hg5));go_ret;have h5:=Ce.andthen (n:=w.heap.size) HS3.out (Below.trans ((Below.refl _ _).alloc hz3 _) HO5.out.2.1) (Nat.le_refl _) hg;obtain⟨A5,c5,rfl⟩:=HO5.out.1.form;exact⟨ns++[5],A5,c5,rfl,by simp;omega,HO5.out.1,h5.1,h5.2⟩
     ·have b0:(x==0)=false:=by simp[h0]
      have b1:(x==1)=false:=by simp[h1]
      have b2:(x==2)=false:=by simp[h2]
      clear h0 h1 h2;obtain⟨A3,c3,rfl⟩:=HO3.out.form;go_wp2_with fail;go_ret;exact⟨ns,A3,c3,rfl,by omega,HO3.out,HS3.out.1,HS3.out.2⟩
def vW(w:World)(e:Ending)(w':World):Prop:= ∃(l:List Int) (A0:Option Addr) (c0:Nat) (v:aa) (A:Option Addr) (c:Nat),e=.returned (.tuple #[.slice A0 l.length c0,.agg #[.int .i64 v.kind,.int .i64 v.n,.int .i64 v.x,.string v.s,.slice A v.l.length c]])∧l.length≤10∧SB w.heap.size w' l A0 c0∧SB w.heap.size w' v.l A c∧dj v∧Below w.heap.size w w'
theorem l7(code:List UInt8)(A:Option Addr)(c:Nat)(w:World)(hn:code.length≤1048576)(hs:SA w code A c):Calls Tryz.prog 9 #[.slice A code.length c] w (vW w):=by
 have B0:=xQ (ab (af w) (.cells #[.int .i64 0,.int .i64 0,.int .i64 0,.string .empty,.slice none 0 0] 27));have P0:=xQ (ah.new w 27 #[.int .i64 0,.int .i64 0,.int .i64 0,.string .empty,.slice none 0 0]);have E:=xQ (hs.below B0.out);clear hs;go_enter Tryz.func9,Tryz.ntmps9;go_wp2_with fail;refine(kV code A c _ hn E.out).mono ?_;rintro e w1 ⟨g,rfl,hg,hb1,hcur⟩;have hg':w.heap.size+1≤g:=by simpa using hg
 have P1:=xQ (P0.out.below hb1);have B1:=xQ (al B0.out hb1);have HC:=xQ hcur;clear hcur hb1 hg;have hzv0:w.heap.size<w1.heap.size:=P1.out.lt;go_wp2_with fail;refine(lk g code w1 HC.out).mono ?_;rintro e w2 ⟨ways,A0,c0,rfl,hwl,hown,hce,hcur⟩;have P2:=xQ (hce.dc P1.out (by omega));have hgz:g<w1.heap.size:=HC.out.lt;have B2:=xQ (B1.out.trans (hce.below (by omega)));have hzv1:w.heap.size<w2.heap.size:=P2.out.lt;have HW:=xQ (xP hown (xP hcur hwl));clear hce hcur hown hwl;go_wp2_with fail;refine(ou g code w2 HW.out.2.1).mono ?_;rintro e w3 ⟨x,Ax,cx,rfl,hsx,hIx,hkx,hce,hcur⟩;have P3:=xQ (hce.dc P2.out (by omega));have B3:=xQ (B2.out.trans (hce.below (by omega)));have hSW:=(HW.out.1.ce hce hgz).sf.2.sb;have HX:=xQ (xP (show SB (w.heap.size+1) w3 x.l Ax cx from SB.mono hsx.sb (by omega)) (xP (hkx.wL (by omega) (by omega)) (show SB (w.heap.size+1) w3 ways A0 c0 from SB.mono hSW (by omega))));clear hce hcur hsx hIx hkx hSW;obtain⟨f0,f1,f2,f3,f4⟩:=P3.out.f5;obtain⟨p0,p1,p2,p3,p4⟩:=P3.out.c5;have hzz:w.heap.size<w3.heap.size:=P3.out.lt;go_wp2_with fail;refine bodyPost_ret (v:=.tuple #[.slice A0 ways.length c0,.agg #[.int .i64 x.kind,.int .i64 x.n,.int .i64 x.x,.string x.s,.slice Ax x.l.length cx]]) (by simp[results,Tryz.results9,go_sem, *]<;>rfl) rfl ?_;refine⟨ways,A0,c0,x,Ax,cx,rfl,HW.out.2.2,?_,?_,HX.out.2.1,?_⟩;·exact SB.bu HX.out.2.2 (by omega) (by omega) _ _ _ _ _
 ·exact SB.bu HX.out.1 (by omega) (by omega) _ _ _ _ _
 ·refine Below.setCell (Below.setCell (Below.setCell (Below.setCell (Below.setCell B3.out ?_ _) ?_ _) ?_ _) ?_ _) ?_ _;all_goals exact Nat.le_refl _
theorem j4(code:List UInt8)(A:Option Addr)(c:Nat)(w:World)(hn:code.length≤1048576)(hs:SA w code A c):Calls Tryz.prog 10 #[.slice A code.length c] w (vW w):=by
 have B0:=xQ (ab (af w) (.cells #[.int .i64 0,.int .i64 0,.int .i64 0,.string .empty,.slice none 0 0] 27));have P0:=xQ (ah.new w 27 #[.int .i64 0,.int .i64 0,.int .i64 0,.string .empty,.slice none 0 0]);have E:=xQ (hs.below B0.out);clear hs;go_enter Tryz.func10,Tryz.ntmps10;go_wp2_with fail;refine(kV code A c _ hn E.out).mono ?_;rintro e w1 ⟨g,rfl,hg,hb1,hcur⟩;have hg':w.heap.size+1≤g:=by simpa using hg
 have P1:=xQ (P0.out.below hb1);have B1:=xQ (al B0.out hb1);have HC:=xQ hcur;clear hcur hb1 hg;have hzv0:w.heap.size<w1.heap.size:=P1.out.lt;go_wp2_with fail;refine(lk g code w1 HC.out).mono ?_;rintro e w2 ⟨ways,A0,c0,rfl,hwl,hown,hce,hcur⟩;have P2:=xQ (hce.dc P1.out (by omega));have hgz:g<w1.heap.size:=HC.out.lt;have B2:=xQ (B1.out.trans (hce.below (by omega)));have hzv1:w.heap.size<w2.heap.size:=P2.out.lt;have hz12:=hce.size;have HW:=xQ (xP hown (xP hcur hwl));clear hce hcur hown hwl;go_wp2_with fail;refine(av g code 2 _ (by omega) (by omega) HW.out.2.1).mono ?_;rintro e w4 ⟨k,rfl,hk0,hk1,hce,hcur⟩;have P4:=xQ (hce.dc P2.out (by omega));have B4:=xQ (B2.out.trans (hce.below (by omega)));have hzv4:w.heap.size<w4.heap.size:=P4.out.lt;have hz24:=hce.size;have HW4:=xQ (xP (HW.out.1.ce hce hgz) hcur);clear hce hcur;go_wp2_with fail;refine(mV g code k w4 (by omega) (by omega) HW4.out.2).mono ?_;rintro e w3 ⟨x,Ax,cx,rfl,hsx,hIx,hkx,hce,hcur⟩;have P3:=xQ (hce.dc P4.out (by omega));have B3:=xQ (B4.out.trans (hce.below (by omega)));have hSW:=(HW4.out.1.ce hce hgz).sf.2.sb;have HX:=xQ (xP (show SB (w.heap.size+1) w3 x.l Ax cx from SB.mono hsx.sb (by omega)) (xP (hkx.wL (by omega) (by omega)) (show SB (w.heap.size+1) w3 ways A0 c0 from SB.mono hSW (by omega))));clear hce hcur hsx hIx hkx hSW;obtain⟨f0,f1,f2,f3,f4⟩:=P3.out.f5;obtain⟨p0,p1,p2,p3,p4⟩:=P3.out.c5;have hzz:w.heap.size<w3.heap.size:=P3.out.lt;go_wp2_with fail;refine bodyPost_ret (v:=.tuple #[.slice A0 ways.length c0,.agg #[.int .i64 x.kind,.int .i64 x.n,.int .i64 x.x,.string x.s,.slice Ax x.l.length cx]]) (by simp[results,Tryz.results10,go_sem, *]<;>rfl) rfl ?_;refine⟨ways,A0,c0,x,Ax,cx,rfl,HW.out.2.2,?_,?_,HX.out.2.1,?_⟩;·exact SB.bu HX.out.2.2 (by omega) (by omega) _ _ _ _ _
 ·exact SB.bu HX.out.1 (by omega) (by omega) _ _ _ _ _
 ·refine Below.setCell (Below.setCell (Below.setCell (Below.setCell (Below.setCell B3.out ?_ _) ?_ _) ?_ _) ?_ _) ?_ _;all_goals exact Nat.le_refl _
section
theorem o5{α:Type}(lt:α→α→Bool)(q:List α)(x y:α):bQ lt (q++[y]) x=if lt x y then bQ lt q x++[y] else q++[y]++[x]:=by
 unfold bQ;rw[List.reverse_append,List.reverse_singleton,List.singleton_append,cI];split;·rw[List.reverse_cons]
 ·simp
theorem cC{α:Type}(lt:α→α→Bool)(x:α): ∀(n:Nat)(q:List α)(m:Nat),q.length=n→m≤q.length→(∀i(h:i<q.length),m≤i→lt x q[i]=true)→(∀h:m-1<q.length,0<m→lt x q[m-1]=false)→bQ lt q x=q.take m++[x]++q.drop m|0,q,m,hn,hm,_,_=>by have:q=[]:=List.length_eq_zero_iff.1 hn;subst this;simp[bQ,cI]|n+1,q,m,hn,hm,h1,h2=>by(have hne:q≠[]:=fun e=>by rw[e] at hn;simp at hn);obtain⟨q',y,rfl⟩: ∃q' y,q=q'++[y]:=⟨q.dropLast,q.getLast hne,(List.dropLast_concat_getLast hne).symm⟩;(have hl:(q'++[y]).length=q'.length+1:=by simp);rw[o5];by_cases hm':m=q'.length+1;(·have:=h2 (by omega) (by omega);rw[List.getElem_append_right (by omega)] at this;simp at this;rw[if_neg (by rw[this];simp),List.take_of_length_le (by omega),List.drop_of_length_le (by omega)];simp);·have hy:=h1 q'.length (by omega) (by omega);rw[List.getElem_append_right (by omega)] at hy;simp at hy;rw[if_pos hy];have ih:=cC lt x n q' m (by omega) (by omega) (fun i h hi=>by have:=h1 i (by omega) hi;rwa[List.getElem_append_left h] at this) (fun h hm0=>by have:=h2 (by omega) hm0;rwa[List.getElem_append_left h] at this);rw[ih,List.take_append_of_le_length (by omega),List.drop_append_of_le_length (by omega)];simp
theorem j6(a b:List ai):aj (a++b)=aj a++aj b:=by
 unfold aj;rw[List.flatMap_append]
theorem mw: ∀(cs:List ai)(m:Nat),aj (cs.take m)=(aj cs).take (2*m)|[],m=>by simp[aj]|c::cs,0=>by simp[aj]|c::cs,m+1=>by rw[List.take_succ_cons,aQ,aQ,mw cs m,show 2*(m+1)=2*m+1+1 by omega,List.take_succ_cons,List.take_succ_cons]
theorem mo: ∀(cs:List ai)(m:Nat),aj (cs.drop m)=(aj cs).drop (2*m)|[],m=>by simp[aj]|c::cs,0=>by simp|c::cs,m+1=>by rw[List.drop_succ_cons,aQ,mo cs m,show 2*(m+1)=2*m+1+1 by omega,List.drop_succ_cons,List.drop_succ_cons]
theorem jw: ∀(cs:List ai)(m:Nat)(h:m<cs.length),(aj cs)[2*m]'(by rw[di];omega)=cs[m].name|c::cs,0,h=>by simp[aQ]|c::cs,m+1,h=>by have:=jw cs m (by simpa using h);simp only[aQ,show 2*(m+1)=2*m+1+1 by omega,List.getElem_cons_succ];exact this
theorem oq: ∀(cs:List ai)(m:Nat)(h:m<cs.length),(aj cs)[2*m+1]'(by rw[di];omega)=cs[m].val|c::cs,0,h=>by simp[aQ]|c::cs,m+1,h=>by have:=oq cs m (by simpa using h);simp only[aQ,show 2*(m+1)+1=2*m+1+1+1 by omega,List.getElem_cons_succ];exact this
theorem eK{α:Type}(lt:α→α→Bool): ∀(xs q:List α)(x:α),ao lt q (xs++[x])=bQ lt (ao lt q xs) x|[],q,x=>by simp[ao]|y::xs,q,x=>by rw[List.cons_append,ao,ao,eK lt xs]
theorem ff{α:Type}(lt:α→α→Bool)(xs:List α):(ao lt [] xs).length=xs.length:=by
 have:=(bS lt xs []).length_eq;simpa using this
def QB(base X:Nat)(b:Nat):Prop:=base≤b∧b≠X
section
variable {α : Type} [aG α] {P : Program} {W : World}
def bZ(Q:Nat→Prop)(w:World)(base:Nat)(t:TypeId)(v:Value)(l:List α):Prop:=aB w base t v l (fun b=>Q b∧b<w.heap.size)
def vU(Q:Nat→Prop)(N:Nat)(W:World)(base:Nat)(e:TypeId)(v:Value)(l:List α)(v':Value)(w':World):Prop:=bZ Q w' base e v' l∧Below N W w'∧(∀g,v'.ownBlock=some g→N≤g)∧W.grownBy w' v.ownBlock∧(v'.ownBlock=v.ownBlock∨v'.ownBlock=some W.heap.size)
theorem bZ.below{Q:Nat→Prop}{w w':World}{base:Nat}{t:TypeId}{v:Value}{l:List α}(h:bZ Q w base t v l)(hb:Below w.heap.size w w'):bZ Q w' base t v l:=aB.mono (aB.an h hb fun b hb=>hb.2) fun b h=>⟨h.1,Nat.lt_of_lt_of_le h.2 hb.size⟩
theorem bZ.ss{Q:Nat→Prop}{w:World}{base:Nat}{t:TypeId}{g n c:Nat}{l:List α}(h:bZ Q w base t (.slice (some ⟨g,0,none⟩) n c) l)(hg:Q g):n=l.length∧SS w (fun b=>Q b∧b<w.heap.size) l (some ⟨g,0,none⟩) c:=by
 obtain⟨h1,h2⟩:=aB.ss h w (fun b=>Q b∧b<w.heap.size) (fun _ _=>rfl) (fun b hb=>by rcases hb with hb|hb;(·simp only[Value.ownBlock,Option.some.injEq] at hb;subst hb;exact⟨hg,(aB.ar h g rfl).2⟩);·exact hb);exact⟨h1,h2⟩
theorem gu(Q:Nat→Prop)(N:Nat)(t ty:TypeId)(base:Nat)(e:TypeId)(z:Value)(bytes:Nat)(ht:P.underlying t=some (.slice e))(hinfo:(P.info? e).map (fun i=>(i.zero,i.size,i.bytes))=some (some z,aG.wd α,bytes))(hzs:z.cells.size=aG.wd α)(hsz:0<aG.wd α)(v:Value)(l ys:List α)(ad:Addr)(c:Nat)(F':List Nat)(news:List Value)(hN:N≤W.heap.size)(hbN:base≤N)(hown:bZ Q W base e v l)(hv: ∀g,v.ownBlock=some g→N≤g)(hel:aH W ys F' news)(hF': ∀b,b∈F'→Q b∧b<N)(hcells: ∀j u,news[j]? =some u→W.cell? (ad.add j)=some u)(hbytes:(l.length+ys.length)*bytes≤140737488355328)(h63:l.length+ys.length≤maxLen): ∃v' w',(Builtin.append_ #[t,t] ty #[v,.slice (some ad) ys.length c]).run P W=.ok v' w'∧vU Q N W base e v (l++ys) v' w':=by
 obtain⟨i,hi,hz,hsize,hby⟩:=info_parts hinfo;obtain⟨F,hC,hlt⟩:=hown;have hgl:=hC.ar;obtain⟨xs,h1,h2,h3⟩:=hC;have hF: ∀g,v.ownBlock=some g→g∉F':=fun g hg hm=>by have:=(hF' g hm).2;have:=hv g hg;omega
 have hnew: ∀b,b∈F++F'→Q b∧b<W.heap.size:=fun b hm=>by rcases List.mem_append.1 hm with hm|hm;(·exact hlt b hm);·exact⟨(hF' b hm).1,Nat.lt_of_lt_of_le (hF' b hm).2 hN⟩
 obtain⟨v',w',hrun,h4,h5,_,h6⟩:=run_append_own_at (P:=P) W base t ty e i z (aG.wd α) bytes ht hi hz hsize hby hzs hsz v l.length xs h1 ad ys.length c news hel.len hcells hel.one h63 hbytes (Nat.le_trans hbN hN);refine⟨v',w',hrun,⟨F++F',cY.grown h2 h3 hel hF (fun b hb=>(hnew b hb).2) h4 h5 h6,fun b hb=>⟨(hnew b hb).1,Nat.lt_of_lt_of_le (hnew b hb).2 h5.size⟩⟩,bR h5 hN fun k hk=>hv k hk,fun g hg=> ?_,h5,h6⟩;rcases h6 with e|e;·exact hv g (e▸hg)
 ·rw[e] at hg;injection hg with hg;omega
theorem dS(Q:Nat→Prop)(N:Nat)(t ty:TypeId)(base:Nat)(e:TypeId)(z:Value)(bytes:Nat)(ht:P.underlying t=some (.slice e))(hinfo:(P.info? e).map (fun i=>(i.zero,i.size,i.bytes))=some (some z,aG.wd α,bytes))(hzs:z.cells.size=aG.wd α)(hsz:0<aG.wd α)(v:Value)(l ys:List α)(A:Option Addr)(n c:Nat)(hnl:n=ys.length)(hN:N≤W.heap.size)(hbN:base≤N)(hown:bZ Q W base e v l)(hv: ∀g,v.ownBlock=some g→N≤g)(hr:SS W (fun b=>Q b∧b<N) ys A c)(hbytes:(l.length+ys.length)*bytes≤140737488355328)(h63:l.length+ys.length≤maxLen): ∃v' w',(Builtin.append_ #[t,t] ty #[v,.slice A n c]).run P W=.ok v' w'∧vU Q N W base e v (l++ys) v' w':=by
 subst hnl;obtain⟨F0,⟨hl1,hl2,hl3⟩,hr2⟩:=hr;rcases hl3 with⟨rfl,rfl,hn⟩|⟨b,off,F1,news,rfl,rfl,hel,hc⟩;·cases A with|none=>rw[hn rfl];obtain⟨F,hC,hFr⟩:=hown;exact⟨v,W,gv base t ty e z bytes ht hinfo v l F hC,by rw[List.append_nil];exact⟨F,hC,hFr⟩,Below.refl _ _,hv,ix _ _,.inl rfl⟩|some ad=>exact gu Q N t ty base e z bytes ht hinfo hzs hsz v l [] ad c [] [] hN hbN hown hv ⟨rfl,rfl⟩ (by simp) (fun j u hj=>by simp at hj) hbytes h63
 ·refine gu Q N t ty base e z bytes ht hinfo hzs hsz v l ys ⟨b,off,none⟩ c F1 news hN hbN hown hv hel (fun b hb=>hr2 b (List.mem_cons_of_mem _ hb)) (fun j u hj=> ?_) hbytes h63;have e1:(⟨b,off,none⟩:Addr).add j=⟨b,off+j,none⟩:=by unfold Addr.add;split;(·rename_i h;subst h;rfl);·rfl
  rw[e1];exact hc j u hj
theorem mW(Q:Nat→Prop)(N:Nat)(t ty:TypeId)(base:Nat)(e:TypeId)(z:Value)(bytes:Nat)(ht:P.underlying t=some (.slice e))(hinfo:(P.info? e).map (fun i=>(i.zero,i.size,i.bytes))=some (some z,aG.wd α,bytes))(hzs:z.cells.size=aG.wd α)(hsz:0<aG.wd α)(v:Value)(l:List α)(x y:α)(cx cy:List Value)(ad:Addr)(c:Nat)(hN:N≤W.heap.size)(hbN:base≤N)(hown:bZ Q W base e v l)(hv: ∀g,v.ownBlock=some g→N≤g)(hx:RS W (fun b=>Q b∧b<N) x cx)(hy:RS W (fun b=>Q b∧b<N) y cy)(hcells: ∀j u,(cx++cy)[j]? =some u→W.cell? (ad.add j)=some u)(hbytes:(l.length+2)*bytes≤140737488355328)(h63:l.length+2≤maxLen): ∃v' w',(Builtin.append_ #[t,t] ty #[v,.slice (some ad) 2 c]).run P W=.ok v' w'∧vU Q N W base e v (l++[x,y]) v' w':=by
 obtain⟨FX,hX,hFX⟩:=hx;obtain⟨FY,hY,hFY⟩:=hy;refine gu Q N t ty base e z bytes ht hinfo hzs hsz v l [x,y] ad c (FX++FY) (cx++cy) hN hbN hown hv ⟨FX,FY,cx,cy,rfl,rfl,hX,⟨FY,[],cy,[],by simp,by simp,hY,⟨rfl,rfl⟩⟩⟩ (fun b hb=> ?_) hcells hbytes h63;rcases List.mem_append.1 hb with h|h;·exact hFX b h
 ·exact hFY b h
theorem ni(Q:Nat→Prop)(N:Nat)(t ty:TypeId)(base:Nat)(e:TypeId)(z:Value)(bytes:Nat)(ht:P.underlying t=some (.slice e))(hinfo:(P.info? e).map (fun i=>(i.zero,i.size,i.bytes))=some (some z,aG.wd α,bytes))(hzs:z.cells.size=aG.wd α)(hsz:0<aG.wd α)(v:Value)(l:List α)(x:α)(cx:List Value)(ad:Addr)(c:Nat)(hN:N≤W.heap.size)(hbN:base≤N)(hown:bZ Q W base e v l)(hv: ∀g,v.ownBlock=some g→N≤g)(hx:RS W (fun b=>Q b∧b<N) x cx)(hcells: ∀j u,cx[j]? =some u→W.cell? (ad.add j)=some u)(hbytes:(l.length+1)*bytes≤140737488355328)(h63:l.length+1≤maxLen): ∃v' w',(Builtin.append_ #[t,t] ty #[v,.slice (some ad) 1 c]).run P W=.ok v' w'∧vU Q N W base e v (l++[x]) v' w':=by
 obtain⟨FX,hX,hFX⟩:=hx;exact gu Q N t ty base e z bytes ht hinfo hzs hsz v l [x] ad c FX cx hN hbN hown hv (aH.single hX) hFX hcells hbytes h63
theorem bZ.mf{Q:Nat→Prop}{w:World}{base:Nat}{t:TypeId}{v:Value}{l:List α}(h:bZ Q w base t v l)(hl:0<l.length): ∃g c,v=.slice (some ⟨g,0,none⟩) l.length c:=by
 obtain⟨F,⟨xs,h1,h2,h3⟩,_⟩:=h;rcases h1.2 with⟨hv,hn⟩|⟨g,cap,cur,hv,_⟩;·omega
 ·exact⟨g,cap,hv⟩
theorem vK.take{w:World}{S:Nat→Prop}{l:List α}{A:Option Addr}{c:Nat}(h:SS w S l A c)(k:Nat)(hk:k≤l.length):SS w S (l.take k) A c:=by
 obtain⟨F,⟨h1,h2,h3⟩,hF⟩:=h;rcases h3 with⟨rfl,rfl,hz⟩|⟨b,off,F',xs,hA,rfl,he,hc⟩;·exact⟨[],⟨by simp,h2,.inl ⟨by simp,rfl,hz⟩⟩,by simp⟩
 ·rw[←List.take_append_drop k l] at he;obtain⟨F1,F2,x1,x2,rfl,rfl,he1,_⟩:=he.split;refine⟨b::F1,⟨by simp;omega,h2,.inr ⟨b,off,F1,x1,hA,rfl,he1,fun j v hj=> ?_⟩⟩,fun x hx=>hF x ?_⟩;·exact hc j v (by rw[List.getElem?_append_left (List.getElem?_eq_some_iff.1 hj).1];exact hj)
  ·simp only[List.mem_cons,List.mem_append] at hx ⊢;rcases hx with rfl|hx;·exact .inl rfl
   ·exact .inr (.inl hx)
theorem vK.drop{w:World}{S:Nat→Prop}{l:List α}{b off c:Nat}(h:SS w S l (some ⟨b,off,none⟩) c)(k:Nat)(hk:k≤l.length):SS w S (l.drop k) (some ⟨b,off+k*aG.wd α,none⟩) (c-k):=by
 obtain⟨F,⟨h1,h2,h3⟩,hF⟩:=h;rcases h3 with⟨rfl,rfl,hz⟩|⟨b',off',F',xs,hA,rfl,he,hc⟩;·exact⟨[],⟨by simp,by omega,.inl ⟨by simp,rfl,fun h=>by cases h⟩⟩,by simp⟩
 ·injection hA with hA;injection hA with e1 e2;subst e1 e2;rw[←List.take_append_drop k l] at he;obtain⟨F1,F2,x1,x2,rfl,rfl,he1,he2⟩:=he.split;have hx1:x1.length=k*aG.wd α:=by rw[he1.len,List.length_take,Nat.min_eq_left hk]
  refine⟨b::F2,⟨by simp;omega,by omega,.inr ⟨b,_,F2,x2,rfl,rfl,he2,fun j v hj=> ?_⟩⟩,fun x hx=>hF x ?_⟩;·have:=hc (k*aG.wd α+j) v (by rw[List.getElem?_append_right (by omega),hx1,Nat.add_sub_cancel_left];exact hj);rwa[←Nat.add_assoc] at this
  ·simp only[List.mem_cons,List.mem_append] at hx ⊢;rcases hx with rfl|hx;·exact .inl rfl
   ·exact .inr (.inr hx)
theorem vK.uc{w:World}{S:Nat→Prop}{l:List α}{b off c:Nat}(h:SS w S l (some ⟨b,off,none⟩) c)(k:Nat)(hk:k≤l.length):SS w S (l.drop k) (if c=k then some ⟨b,off,none⟩ else some ⟨b,off+k*aG.wd α,none⟩) (c-k):=by
 by_cases e:c=k;·rw[if_pos e];obtain⟨F,⟨h1,h2,_⟩,hF⟩:=h;have hl:l.drop k=[]:=List.drop_eq_nil_of_le (by omega);rw[hl];exact⟨[],⟨by simp,by omega,.inl ⟨rfl,rfl,fun h=>by cases h⟩⟩,by simp⟩
 ·rw[if_neg e];exact vK.drop h k hk
theorem mh{w w':World}{t t0:TypeId}{row:Option Nat}{cs0 cs:Array Value}(hg:((w.alloc (.cells cs0 t0)).alloc (.cells cs t)).grownBy w' row):(∀g,g=w.heap.size→row≠some g→ah w' g t0 cs0)∧(∀g,g=w.heap.size+1→row≠some g→ah w' g t cs):=⟨fun g e h=>by subst e;exact ah.grown ((ah.new w t0 cs0).alloc _) hg h,fun g e h=>ah.grown (ah.at (by simp;exact e)) hg h⟩
theorem fa{w w':World}{t t0:TypeId}{row:Option Nat}{cs0 cs:Array Value}(hg:((w.alloc (.cells cs0 t0)).alloc (.cells cs t)).drew.grownBy w' row):(∀g,g=w.heap.size→row≠some g→ah w' g t0 cs0)∧(∀g,g=w.heap.size+1→row≠some g→ah w' g t cs):=⟨fun g e h=>by subst e;exact ah.grown (ah.drew ((ah.new w t0 cs0).alloc _)) hg h,fun g e h=>ah.grown (ah.drew (ah.at (by simp;exact e))) hg h⟩
theorem ah.cn{w:World}{g:Nat}{t:TypeId}{cs:Array Value}(h:ah w g t cs): ∀j u,cs.toList[j]? =some u→w.cell? ((⟨g,0,none⟩:Addr).add j)=some u:=by
 intro j u hj;have e1:(⟨g,0,none⟩:Addr).add j=⟨g,j,none⟩:=by unfold Addr.add;split;(·rename_i h;subst h;rfl);·simp
 rw[e1,h.cell];rw[←Array.getElem?_toList];exact hj
section
variable {α : Type} [aG α]
theorem bZ.fS{Q:Nat→Prop}(w:World)(t:TypeId)(base g:Nat)(hg:g=w.heap.size)(hb:base≤w.heap.size):bZ (α:=α) Q (w.alloc (.cells #[] t)) base t (.slice (some ⟨g,0,none⟩) 0 0) []:=hg▸aB.su w t base hb _
theorem bZ.lD{Q:Nat→Prop}(w:World)(t:TypeId)(base g:Nat)(hg:g=w.heap.size)(hb:base≤w.heap.size):bZ (α:=α) Q (w.alloc (.cells #[] t)).drew base t (.slice (some ⟨g,0,none⟩) 0 0) []:=(bZ.fS w t base g hg hb).below (af _).drew
theorem bZ.sB{Q:Nat→Prop}(w:World)(t:TypeId)(base g:Nat)(o:Obj)(hg:g=w.heap.size)(hb:base≤w.heap.size):bZ (α:=α) Q ((w.alloc (.cells #[] t)).alloc o) base t (.slice (some ⟨g,0,none⟩) 0 0) []:=(bZ.fS w t base g hg hb).below (ab (af _) _)
theorem bZ.pj{Q:Nat→Prop}(w:World)(t:TypeId)(base g:Nat)(o:Obj)(hg:g=w.heap.size)(hb:base≤w.heap.size):bZ (α:=α) Q ((w.alloc (.cells #[] t)).alloc o).drew base t (.slice (some ⟨g,0,none⟩) 0 0) []:=(bZ.fS w t base g hg hb).below (ab (af _) _).drew
end
end
end
theorem mj: ∀(r:List (aa×List ag))(k i:Nat)(h:i<(aF r k).length)(h0:2*i<r.length)(h1:2*i+1<r.length),(aF r k)[i]=⟨k+i,r[2*i].1,r[2*i].2,r[2*i+1].1,r[2*i+1].2⟩|a::b::l,k,0,_,_,_=>by simp[aF]|a::b::l,k,i+1,h,h0,h1=>by have ih:=mj l (k+1) i (by simpa[aF] using h) (by simp at h0;omega) (by simp at h1;omega);simp only[aF,List.getElem_cons_succ,ih];simp only[show 2*(i+1)=2*i+1+1 by omega,List.getElem_cons_succ,show k+1+i=k+(i+1) by omega]|[a],k,i,h,_,_=>by simp[aF] at h|[],k,i,h,_,_=>by simp[aF] at h
def ei(way:Int)(l:List aa)(p:List GStep):List ai:=aF (projL way 10 l 0 p) 0
theorem ea(way:Int)(l:List aa)(p:List GStep):(ei way l p).length=l.length/2:=by
 unfold ei;rw[je,bM]
theorem mA(i:Nat):iw 10 (2*i)=⟨(i:Int),true⟩:=by
 unfold iw;rw[if_pos rfl,show 2*i/2=i by omega];simp
theorem ti(i:Nat):iw 10 (2*i+1)=⟨(i:Int),false⟩:=by
 unfold iw;rw[if_pos rfl,show(2*i+1)/2=i by omega];simp
theorem jB(way:Int)(l:List aa)(p:List GStep){i:Nat}(h:i<(ei way l p).length)(h0:2*i<l.length)(h1:2*i+1<l.length):(ei way l p)[i].at_=i∧((ei way l p)[i].name,(ei way l p)[i].nl)=cl way 10 l[2*i] (2*i) p∧((ei way l p)[i].val,(ei way l p)[i].vl)=projP way l[2*i+1] (p++[⟨(i:Int),false⟩]):=by
 have e:=mj (projL way 10 l 0 p) 0 i h (by rw[bM];exact h0) (by rw[bM];exact h1);unfold ei;rw[e,ct way 10 p l 0 (2*i) h0,ct way 10 p l 0 (2*i+1) h1];refine⟨by simp,by simp,?_⟩;simp only[Nat.zero_add];unfold cl;rw[if_neg (by omega),ti]
theorem jV{way:Int}{l:List aa}{p:List GStep}{i:Nat}(h:i<(ei way l p).length)(h0:2*i<l.length)(h1:2*i+1<l.length)(hw:bF way=true):(ei way l p)[i].name=ef l[2*i]∧(ei way l p)[i].nl=if l[2*i].kind=7 then[] else[⟨7,p++[⟨(i:Int),true⟩]⟩]:=by
 have e:=(jB way l p h h0 h1).2.1;unfold cl at e;rw[if_pos ⟨rfl,by omega,hw⟩,mA] at e;injection e with e1 e2;exact⟨e1,e2⟩
theorem gX{way:Int}{l:List aa}{p:List GStep}{i:Nat}(h:i<(ei way l p).length)(h0:2*i<l.length)(h1:2*i+1<l.length)(hw:bF way=false):(ei way l p)[i].name=(projP way l[2*i] (p++[⟨(i:Int),true⟩])).1∧(ei way l p)[i].nl=(projP way l[2*i] (p++[⟨(i:Int),true⟩])).2:=by
 have e:=(jB way l p h h0 h1).2.1;unfold cl at e;rw[if_neg (by rw[hw];simp),mA] at e;exact⟨congrArg Prod.fst e,congrArg Prod.snd e⟩
def eg(cs:List ai)(n:Nat):List Int:=(List.range n).map fun i=>(((cs.take i).flatMap (·.nl)).length:Int)
theorem nv(cs:List ai)(n:Nat):eg cs (n+1)=eg cs n++[(((cs.take n).flatMap (·.nl)).length:Int)]:=by
 unfold eg;rw[List.range_succ,List.map_append];rfl
theorem fZ(cs:List ai)(n:Nat):(eg cs n).length=n:=by
 unfold eg;simp
theorem vd(cs:List ai)(n:Nat){i:Nat}(h:i<(eg cs n).length):(eg cs n)[i]=(((cs.take i).flatMap (·.nl)).length:Int):=by
 unfold eg;simp
theorem rl{cs:List ai}{i:Nat}(h:i<cs.length):(cs.take (i+1)).map ai.name=(cs.take i).map ai.name++[cs[i].name]:=by
 rw[List.take_succ_eq_append_getElem h,List.map_append];rfl
theorem pt{cs:List ai}{i:Nat}(h:i<cs.length):(cs.take (i+1)).flatMap (·.nl)=(cs.take i).flatMap (·.nl)++cs[i].nl:=by
 rw[List.take_succ_eq_append_getElem h,List.flatMap_append];simp
theorem wO{cs:List ai}{i:Nat}(h:i<cs.length): ∃a b,cs.flatMap (·.nl)=a++cs[i].nl++b∧a=(cs.take i).flatMap (·.nl):=by
 refine⟨(cs.take i).flatMap (·.nl),(cs.drop (i+1)).flatMap (·.nl),?_,rfl⟩;rw[←pt h,←List.flatMap_append,List.take_append_drop]
def gD(p:List GStep)(cs:List ai)(i:Nat)(K:List ai)(L:List ag):Prop:=aD cs=K++aD (cs.drop i)∧bl p cs=L++bl p (cs.drop i)
theorem gD.start(p:List GStep)(cs:List ai):gD p cs 0 [] []:=⟨by simp,by simp⟩
theorem gD.gone{p:List GStep}{cs:List ai}{i:Nat}{K:List ai}{L:List ag}(h:gD p cs i K L)(hi:i<cs.length)(hg:dL cs[i] (cs.drop (i+1))=true)(ha:cs[i].at_=i):gD p cs (i+1) K (L++[⟨8,p++[⟨(i:Int),true⟩]⟩]):=by
 obtain⟨h1,h2⟩:=h;rw[List.drop_eq_getElem_cons hi,aD,if_pos hg] at h1;rw[List.drop_eq_getElem_cons hi,bl,if_pos hg,ha] at h2;exact⟨h1,by rw[h2];simp⟩
theorem gD.kept{p:List GStep}{cs:List ai}{i:Nat}{K:List ai}{L:List ag}(h:gD p cs i K L)(hi:i<cs.length)(hg:dL cs[i] (cs.drop (i+1))=false):gD p cs (i+1) (K++[cs[i]]) (L++cs[i].nl++cs[i].vl):=by
 obtain⟨h1,h2⟩:=h;rw[List.drop_eq_getElem_cons hi,aD,if_neg (by rw[hg];simp)] at h1;rw[List.drop_eq_getElem_cons hi,bl,if_neg (by rw[hg];simp)] at h2;exact⟨by rw[h1];simp,by rw[h2];simp⟩
theorem gD.done{p:List GStep}{cs:List ai}{i:Nat}{K:List ai}{L:List ag}(h:gD p cs i K L)(hi:cs.length≤i):aD cs=K∧bl p cs=L:=by
 obtain⟨h1,h2⟩:=h;rw[List.drop_eq_nil_of_le hi] at h1 h2;exact⟨by simpa[aD] using h1,by simpa[bl] using h2⟩
theorem ny(K:List ai)(c:ai):aj K++[c.name,c.val]=aj (K++[c]):=by
 unfold aj;rw[List.flatMap_append];simp
theorem sq{cs:List ai}{x:aa}{i k:Nat}(hk:k<cs.length)(hik:i+1≤k):((cs.drop (i+1)).take (k+1-(i+1))).any (fun d=>decide (d.name=x))=(((cs.drop (i+1)).take (k-(i+1))).any (fun d=>decide (d.name=x))||decide (cs[k].name=x)):=by
 have hl:k-(i+1)<(cs.drop (i+1)).length:=by rw[List.length_drop];omega
 rw[show k+1-(i+1)=k-(i+1)+1 by omega,List.take_succ_eq_append_getElem hl,List.any_append];simp only[List.any_cons,List.any_nil,Bool.or_false];congr 3;rw[List.getElem_drop];congr 2;omega
theorem oA {way : Int} {l : List aa} {p : List GStep} : aj (ao aY [] (aD (ei way l p))) = aj (aD (ei way l p)) ↔ (ao aY [] (aD (ei way l p))).map ai.at_ = (aD (ei way l p)).map ai.at_ := by
  obtain ⟨K, hK⟩ : ∃ K, K = aD (ei way l p) := ⟨_, rfl⟩
  have hp : (ao aY [] K).Perm K := by simpa using bS aY K []
  have hn : (K.map ai.name).Nodup := by rw [hK]; exact (iB _).1
  have hat : (K.map ai.at_).Nodup := by
    rw [hK]
    have h0 : ((ei way l p).map ai.at_).Nodup := by unfold ei; rw [iR]; exact List.nodup_range'
    have hs : ∀ cs : List ai, (aD cs).Sublist cs := by
      intro cs
      induction cs with
      | nil => exact .slnil
      | cons c cs ih =>
        rw [aD]
        split
        · exact ih.cons c
        · exact ih.cons_cons c
    exact List.Nodup.sublist ((hs _).map _) h0
  rw [← hK]
  constructor
  · intro h
    have hnames : ∀ a b : List ai, aj a = aj b → a.map ai.name = b.map ai.name := by
      intro a
      induction a with
      | nil =>
        intro b h
        cases b with
        | nil => rfl
        | cons d b => rw [aQ] at h; simp [aj] at h
      | cons c a ih =>
        intro b h
        cases b with
        | nil => rw [aQ] at h; simp [aj] at h
        | cons d b =>
          rw [aQ, aQ] at h
          injection h with h1 h2
          injection h2 with h2 h3
          rw [List.map_cons, List.map_cons, h1, ih b h3]
    have h1 := hnames _ _ h
    have key : ∀ (a b : List ai), a.Perm b → (b.map ai.name).Nodup → a.map ai.name = b.map ai.name → a = b := by
      intro a
      induction a with
      | nil => intro b hp _ _; exact (List.nil_perm.1 hp).symm
      | cons c a ih =>
        intro b hp hn h
        cases b with
        | nil => exact absurd hp.length_eq (by simp)
        | cons d b =>
          rw [List.map_cons, List.map_cons] at h
          injection h with h1 h2
          rw [List.map_cons, List.nodup_cons] at hn
          have hc : c ∈ d :: b := hp.mem_iff.1 (by simp)
          have e : c = d := by
            rcases List.mem_cons.1 hc with e | e
            · exact e
            · exact absurd (h1 ▸ List.mem_map_of_mem (f := ai.name) e) hn.1
          subst e
          rw [ih b (List.Perm.cons_inv hp) hn.2 h2]
    rw [key _ _ hp hn h1]
  · intro h
    rw [uX hp hat h]
end Go.Proofs.YtodpdjehjllhdaaGreatDoor
