/- Part of a proof: contracts and plain laws. -/
import Derived.Test.YtodpdjehjllhdaaGreatDoorZ36
import Derived.Test.YtodpdjehjllhdaaGreatDoorZ34
set_option linter.unusedVariables false
set_option maxRecDepth 100000
set_option maxHeartbeats 20000000
namespace Go.Proofs.YtodpdjehjllhdaaGreatDoor
open Go.RowKit
theorem qv(l:List aM)(Q:Nat→Prop)(hnm: ∀x∈l,bL x.name)(hl:l.length≤3)(base g c:Nat)(w:World)(h:bD Q 123 base w g c l)(hcf: ∀(a:Array Value)(w:World),(callFunc 195 a).run Tryz.prog w=.ok (.enter 195 a) w):Calls Tryz.prog 244 #[.slice (some ⟨g,0,none⟩) l.length c,.int .i64 (l.length:Int),.func (.func 195) #[] #[]] w (fun e w'=>e=.returned (.tuple #[])∧bD Q 123 base w' g c (ao bz [] l)∧Kept [g] w w'):=by
 have hfin:Calls Tryz.prog 278 #[.slice (some ⟨g,0,none⟩) l.length c,.int .i64 0,.int .i64 (l.length:Int),.func (.func 195) #[] #[]] w (fun e w'=>e=.returned (.tuple #[])∧bD Q 123 base w' g c (ao bz [] l)∧Kept [g] w w'):=by by_cases h1:l.length≤1;(·refine(nt l l.length h1 g c _ w _).mono ?_;rintro e w1 ⟨rfl,rfl⟩;exact⟨rfl,by rw[mX _ _ h1];exact h,Kept.refl _ _⟩);·have hc:=py l Q hnm l.length (by omega) (Nat.le_refl _) hl base g c w h hcf;refine hc.mono ?_;rintro e w1 ⟨rfl,hr,hk⟩;refine⟨rfl,?_,hk⟩;simpa using hr
 have HF:=xQ hfin;clear hfin hnm h hcf;obtain⟨N,hN⟩: ∃N,N=l.length:=⟨_,rfl⟩;rw[←hN] at HF hl ⊢;clear hN;have h20: ¬((20:Int)≤(N:Int)):=by omega
 have h21: ¬((20:Int)<(N:Int)):=by omega
 go_enter Tryz.func244,Tryz.ntmps244;go_wp2_with fail;go_loopg[7,8] 0 (fun gk s7 s8 wr=>s7=.int .i64 0∧s8=.int .i64 20∧gk=0∧wr=w);case atStart=>exact⟨rfl,rfl,rfl,rfl⟩
 case round=>
  obtain⟨rfl,rfl,rfl,rfl⟩:=hrel;go_wp2_with fail;refine HF.out.mono ?_;rintro e1 w1 ⟨rfl,hr,hk⟩;have HW:=xQ (xP hr hk);clear hr hk;go_wp2_with fail;go_loopg[6] 0 (fun gk s6 wx=>s6=.int .i64 20∧gk=0∧wx=w1);case atStart=>exact⟨rfl,rfl,rfl⟩
  case round=>obtain⟨rfl,rfl,rfl⟩:=hrel;go_wp2_with fail;refine bodyPost_end (v:=.tuple #[]) (by simp[results,Tryz.results244,go_sem]) rfl ?_;exact⟨rfl,HW.out.1,HW.out.2⟩
theorem tF(l:List aM)(Q:Nat→Prop)(hnm: ∀x∈l,bL x.name)(hl:l.length≤3)(base g c:Nat)(w:World)(h:bD Q 123 base w g c l)(hcf: ∀(a:Array Value)(w:World),(callFunc 195 a).run Tryz.prog w=.ok (.enter 195 a) w):Calls Tryz.prog 194 #[.slice (some ⟨g,0,none⟩) l.length c,.func (.func 195) #[] #[]] w (fun e w'=>e=.returned (.tuple #[])∧bD Q 123 base w' g c (ao bz [] l)∧Kept [g] w w'):=by
 have HC:=xQ (qv l Q hnm hl base g c w h hcf);clear h hnm hcf;go_enter Tryz.func194,Tryz.ntmps194;go_wp2_with fail;refine HC.out.mono ?_;rintro e1 w1 ⟨rfl,hr,hk⟩;have HW:=xQ (xP hr hk);clear hr hk;go_wp2_with fail;refine bodyPost_end (v:=.tuple #[]) (by simp[results,Tryz.results194,go_sem]) rfl ?_;exact⟨rfl,HW.out.1,HW.out.2⟩
def gI(way:Int)(l:List aM):List aM:=if way=2 then ao bz [] (l.filter fun x=> !x.gone) else l.filter fun x=> !x.gone
theorem oV(way:Int)(l:List aM):(gI way l).length=(l.filter fun x=> !x.gone).length:=by
 unfold gI;split;·exact ff _ _
 ·rfl
theorem uw(way:Int)(l:List aM)(Q:Nat→Prop)(hnm: ∀x∈l,bL x.name)(hl:l.length≤3)(a:Addr)(c:Nat)(w:World)(hQ: ∀b,Q b→b<w.heap.size)(h:SS w Q l (some a) c)(hc1: ∀(a:Array Value)(w:World),(callFunc 193 a).run Tryz.prog w=.ok (.enter 193 a) w)(hc2: ∀(a:Array Value)(w:World),(callFunc 195 a).run Tryz.prog w=.ok (.enter 195 a) w):Calls Tryz.prog 134 #[.int .i64 way,.slice (some a) l.length c] w (fun e w'=> ∃g c',e=.returned (.slice (some ⟨g,0,none⟩) (gI way l).length c')∧bD Q 123 w.heap.size w' g c' (gI way l)∧Below w.heap.size w w'):=by
 have hd:decide (way=2)=(way==2):=by rfl
 rw[oV];obtain⟨K,hK⟩: ∃K,K=l.filter fun x=> !x.gone:=⟨_,rfl⟩;have hKl:K.length≤3:=by rw[hK];exact Nat.le_trans (List.length_filter_le _ _) hl
 have hKn: ∀x∈K,bL x.name:=fun x hx=>hnm x (by rw[hK] at hx;exact(List.mem_filter.1 hx).1);have HCl:=xQ (ob l Q a c w (by omega) hQ h);have HD:=xQ (fun g0 c0 w0 h0=>qh l Q g0 c0 w.heap.size w0 (by omega) h0 hc1);have HS:=xQ (fun g0 c0 w0 h0=>tF K Q hKn hKl w.heap.size g0 c0 w0 h0 hc2);have HK:=xQ hK;have hKC:gI way l=if way=2 then ao bz [] K else K:=by unfold gI;rw[hK]
 rw[←hK] at HD ⊢;have HKC:=xQ hKC;clear hKC hK hnm hKn hQ h hc1 hc2 hl hd;go_enter Tryz.func134,Tryz.ntmps134;go_wp2_with fail;refine HCl.out.mono ?_;rintro e1 w1 ⟨g,c1,rfl,hg,hr1,hb1⟩;have H1:=xQ (xP hr1 hb1);clear hr1 hb1;go_wp2_with fail;refine(HD.out g c1 w1 H1.out.1).mono ?_;rintro e2 w2 ⟨rfl,hr2,hk2⟩;have hb2:Below w.heap.size w w2:=H1.out.2.trans (hk2.below H1.out.2.size (fun b hb=>by rw[List.mem_singleton.1 hb];exact hg));have H2:=xQ (xP hr2 hb2);clear hr2 hk2 hb2;by_cases h2:way=2;·subst h2;go_wp2_with fail;refine(HS.out g c1 w2 H2.out.1).mono ?_;rintro e3 w3 ⟨rfl,hr3,hk3⟩;have hb3:Below w.heap.size w w3:=H2.out.2.trans (hk3.below H2.out.2.size (fun b hb=>by rw[List.mem_singleton.1 hb];exact hg));have H3:=xQ (xP hr3 hb3);clear hr3 hk3 hb3;go_wp2_with fail;go_ret;exact⟨g,c1,rfl,by have h:=HKC.out;simp at h;rw[h];exact H3.out.1,H3.out.2⟩
 ·have h2b:(way==2)=false:=by simp[h2]
  have H0:=xQ h2;clear h2;go_wp2_with fail;go_ret;exact⟨g,c1,rfl,by rw[HKC.out,if_neg H0.out];exact H2.out.1,H2.out.2⟩

def sR(a b:aM):Int:=a.at_-b.at_
theorem tH(x y:aM)(hx:0≤x.at_∧x.at_≤1000)(hy:0≤y.at_∧y.at_≤1000)(Ax Bx Ay By:Option Addr)(cx dx cy dy:Nat)(w:World):Calls Tryz.prog 207 #[.agg #[.int .i64 x.at_,.int .i64 x.name.kind,.int .i64 x.name.n,.int .i64 x.name.x,.string x.name.s,.slice Ax x.name.l.length cx,.slice Bx x.ls.length dx,.bool x.gone],.agg #[.int .i64 y.at_,.int .i64 y.name.kind,.int .i64 y.name.n,.int .i64 y.name.x,.string y.name.s,.slice Ay y.name.l.length cy,.slice By y.ls.length dy,.bool y.gone]] w (cd w (.int .i64 (sR x y))):=by
 go_enter Tryz.func207,Tryz.ntmps207;go_wp2_with fail;go_ret;exact⟨by unfold sR;first|rfl|go_num,ab (ab (af w) _) _⟩
def chainB:List aM→Bool|a::b::t=>decide (a.at_≤b.at_)&&chainB (b::t)|_=>true
theorem qw{a:aM}{l:List aM}(h:chainB (a::l)=true):chainB l=true:=by
 cases l with|nil=>rfl|cons b t=>rw[chainB,Bool.and_eq_true] at h;exact h.2
theorem lr: ∀(k:Nat)(l:List aM),chainB l=true→chainB (l.drop k)=true|0,l,h=>h|k+1,[],h=>rfl|k+1,a::l,h=>lr k l (qw h)
theorem tE{l:List aM}{m:Nat}(h:m+1<l.length):chainB (l.drop m)=(decide (l[m].at_≤l[m+1].at_)&&chainB (l.drop (m+1))):=by
 rw[List.drop_eq_getElem_cons (show m<l.length by omega),List.drop_eq_getElem_cons h,chainB]
theorem r7{l:List aM}{k:Nat}(h:l.length≤k+1):chainB (l.drop k)=true:=by
 have h1:(l.drop k).length≤1:=by rw[List.length_drop];omega
 match hl:l.drop k,h1 with|[],_=>rfl|[a],_=>rfl
theorem lp: ∀l:List aM,chainB l=true↔(l.map aM.at_).Pairwise (·≤ ·)|[]=>by simp[chainB]|[a]=>by simp[chainB]|a::b::t=>by have ih:=lp (b::t);rw[chainB,Bool.and_eq_true,decide_eq_true_iff,ih];simp only[List.map_cons,List.pairwise_cons];constructor;(·rintro⟨h1,h2,h3⟩;refine⟨fun x hx=> ?_,h2,h3⟩;rcases List.mem_cons.1 hx with rfl|hx;(·exact h1);·exact Int.le_trans h1 (h2 x hx));·rintro⟨h1,h2,h3⟩;exact⟨h1 _ (List.mem_cons_self ..),h2,h3⟩
theorem pd(l:List aM)(hat: ∀x∈l,0≤x.at_∧x.at_≤1000)(hl3:l.length≤1000)(A:Option Addr)(c:Nat)(w:World)(hl:SA w l A c)(hcf: ∀(a:Array Value)(w:World),(callFunc 207 a).run Tryz.prog w=.ok (.enter 207 a) w):Calls Tryz.prog 206 #[.slice A l.length c,.func (.func 207) #[] #[]] w (cd w (.bool (chainB l))):=by
 obtain⟨r,hr⟩: ∃r,r=chainB l:=⟨_,rfl⟩;rw[←hr];obtain⟨NL,hNL⟩: ∃NL,NL=l.length:=⟨_,rfl⟩;rw[←hNL];have HN:=xQ (xP hNL hr);clear hr hNL;have E:=xQ (xP hl hat);clear hl hat;have hN3:NL≤1000:=by have:=HN.out.1;omega
 have hwN:IntKind.i64.wrap ((NL:Int)-1)=(NL:Int)-1:=by rw[IntKind.wrap_i64];omega
 go_enter Tryz.func206,Tryz.ntmps206;go_wp2_with fail;go_loopg[5] NL (fun gk s5 wr=> ∃i:Int,s5=.int .i64 i∧ -1≤i∧i+1≤NL∧gk=(i+1).toNat∧Hid (chainB (l.drop i.toNat)=true)∧Below w.heap.size w wr);case atStart=>exact⟨(NL:Int)-1,by first|rfl|go_num,by omega,by omega,by omega,xQ (r7 (by have:=HN.out.1;omega)),af w⟩
 case round=>
  obtain⟨i,rfl,hi0,hi1,rfl,hC,hbel⟩:=hrel;by_cases hpos:0<i
  ·obtain⟨m,rfl⟩: ∃m:Nat,i=(m:Int)+1:=⟨(i-1).toNat,by omega⟩;have hm1:m+1<l.length:=by have:=HN.out.1;omega
   obtain⟨b,off,A1,c1,A2,c2,hAe,hb,hI1,hV1,hs1,hs2,k0,k1,k2,k3,k4,k5,k6,k7⟩:=(E.out.1.below hbel).me hm1;obtain⟨b',off',A3,c3,A4,c4,hAe',hb',hI2,hV2,hs3,hs4,q0,q1,q2,q3,q4,q5,q6,q7⟩:=(E.out.1.below hbel).me (show m<l.length by omega);subst hAe;injection hAe' with hAe';injection hAe' with e1 e2;subst e1 e2;obtain⟨x,hx⟩: ∃x,x=l[m+1]:=⟨_,rfl⟩;obtain⟨y,hy⟩: ∃y,y=l[m]:=⟨_,rfl⟩;rw[←hx] at k0 k1 k2 k3 k4 k5 k6 k7;rw[←hy] at q0 q1 q2 q3 q4 q5 q6 q7;have hxa:=E.out.2 x (by rw[hx];exact List.getElem_mem _);have hya:=E.out.2 y (by rw[hy];exact List.getElem_mem _);have hch:=tE hm1;rw[←hx,←hy] at hch;have hCt:chainB (l.drop (m+1))=true:=hC.out;rw[hCt,Bool.and_true] at hch;have HX:=xQ (xP hxa (xP hya hch));clear hxa hya hch hCt hC hx hy hI1 hV1 hs1 hs2 hI2 hV2 hs3 hs4 hb';have hf1:((m:Int)+1).toNat=m+1:=by omega
   have hf2:IntKind.i64.wrap ((m:Int)+1-1)=(m:Int):=by rw[IntKind.wrap_i64];omega
   have hf7:IntKind.i64.wrap (m:Int)=(m:Int):=by rw[IntKind.wrap_i64];omega
   have hf3:(m:Int)+1<(NL:Int):=by omega
   have hf4:(m:Int)<(NL:Int):=by omega
   have hf5:(0:Int)≤(m:Int)+1:=by omega
   have hf6:(0:Int)≤(m:Int):=by omega
   go_wp2_with fail;go_still_tail 10,(by kernel_rfl);change wpList _ _ _ _ _ wr.drew;go_wp2_with fail;refine(tH x y HX.out.1 HX.out.2.1 A1 A2 A3 A4 c1 c2 c3 c4 _).mono ?_;rintro e w1 ⟨rfl,hb1⟩;have HB:=xQ (al hbel.drew hb1);clear hb1 k0 k1 k2 k3 k4 k5 k6 k7 q0 q1 q2 q3 q4 q5 q6 q7;obtain⟨d,hd⟩: ∃d,d=sR x y:=⟨_,rfl⟩;rw[←hd];have hdl:d<0↔ ¬(y.at_≤x.at_):=by rw[hd];unfold sR;omega
   have HD:=xQ hdl;clear hdl hd;by_cases hneg:d<0
   ·have hr0:r=false:=by have h1:=HX.out.2.2;rw[decide_eq_false (HD.out.1 hneg)] at h1;have h2:=lr m l;rw[HN.out.2];cases h3:chainB l with|false=>rfl|true=>rw[h2 h3] at h1;cases h1
    go_wp2_with fail;go_ret;exact⟨by rw[hr0];rfl,HB.out⟩
   ·have hC2:chainB (l.drop m)=true:=by rw[HX.out.2.2];exact decide_eq_true (Decidable.not_not.1 fun h=>hneg (HD.out.2 h))
    have HC2:=xQ hC2;clear hC2;go_wp2_with fail;go_roundg(m+1);case measure=>omega
    case rel=>exact⟨(m:Int),by first|rfl|go_num,by omega,by omega,by omega,xQ (by rw[Int.toNat_natCast];exact HC2.out),HB.out⟩
  ·have hr1:r=true:=by have h1:=hC.out;rw[show i.toNat=0 from by omega,List.drop_zero] at h1;rw[HN.out.2];exact h1
   have HR:=xQ hr1;clear hr1;go_wp2_with fail;go_ret;exact⟨by rw[HR.out];rfl,hbel⟩
section
inductive dp {α β : Type} (R : α → β → Prop) : List α → List β → Prop
  | nil : dp R [] []
  | cons {a : α} {b : β} {l : List α} {m : List β} : R a b → dp R l m → dp R (a :: l) (b :: m)
section
variable {α β : Type} {R : α → β → Prop}
theorem dp.len{l:List α}{m:List β}(h:dp R l m):l.length=m.length:=by
 induction h with|nil=>rfl|cons _ _ ih=>simp[ih]
theorem dp.get{l:List α}{m:List β}(h:dp R l m): ∀i(h1:i<l.length)(h2:i<m.length),R l[i] m[i]:=by
 induction h with|nil=>intro i h1;simp at h1|cons h _ ih=>intro i h1 h2;cases i with|zero=>exact h|succ i=>exact ih i (by simpa using h1) (by simpa using h2)
theorem dp.of: ∀(l:List α)(m:List β),l.length=m.length→(∀i(h1:i<l.length)(h2:i<m.length),R l[i] m[i])→dp R l m|[],[],_,_=>.nil|[],_::_,h,_=>by simp at h|_::_,[],h,_=>by simp at h|a::l,b::m,h,hR=>.cons (hR 0 (by simp) (by simp)) (dp.of l m (by simpa using h) fun i h1 h2=>hR (i+1) (by simpa using h1) (by simpa using h2))
theorem dp.xG{f:α→Bool}{g:β→Bool}(hfg: ∀a b,R a b→f a=g b){l:List α}{m:List β}(h:dp R l m):dp R (l.filter f) (m.filter g):=by
 induction h with|nil=>exact .nil|cons h _ ih=>rw[List.filter_cons,List.filter_cons,hfg _ _ h];split;(·exact .cons h ih);·exact ih
theorem dp.app{l l':List α}{m m':List β}(h:dp R l m)(h':dp R l' m'):dp R (l++l') (m++m'):=by
 induction h with|nil=>exact h'|cons h _ ih=>exact .cons h ih
theorem dp.rev{l:List α}{m:List β}(h:dp R l m):dp R l.reverse m.reverse:=by
 induction h with|nil=>exact .nil|cons h _ ih=>rw[List.reverse_cons,List.reverse_cons];exact ih.app (.cons h .nil)
theorem dp.xD{f:α→α→Bool}{g:β→β→Bool}(hfg: ∀a a' b b',R a b→R a' b'→f a a'=g b b'){x:α}{y:β}(hx:R x y){l:List α}{m:List β}(h:dp R l m):dp R (cI f x l) (cI g y m):=by
 induction h with|nil=>exact .cons hx .nil|cons h hl ih=>rw[cI,cI,hfg _ _ _ _ hx h];split;(·exact .cons h ih);·exact .cons hx (.cons h hl)
theorem dp.ins{f:α→α→Bool}{g:β→β→Bool}(hfg: ∀a a' b b',R a b→R a' b'→f a a'=g b b'){l:List α}{m:List β}(h:dp R l m): ∀{q:List α}{r:List β},dp R q r→dp R (ao f q l) (ao g r m):=by
 induction h with|nil=>intro q r hq;exact hq|cons h _ ih=>intro q r hq;rw[ao,ao];refine ih ?_;unfold bQ;exact(dp.xD hfg h hq.rev).rev
end
def ub(x:aM)(y:aM):Prop:=x.at_=y.at_∧x.name=y.name∧x.ls.Perm y.ls∧x.gone=y.gone
theorem rj {way : Int} {cs : List ai} {L : List aM} (h : wm cs L) : (gI way L).length = (cf way (aD cs)).length ∧ ∀ j (h1 : j < (gI way L).length) (h2 : j < (cf way (aD cs)).length), ud (gI way L)[j] (cf way (aD cs))[j] := by
  have hL : dp ub L (jL cs) := by
    refine dp.of _ _ (by rw [iK]; exact h.1) fun i h1 h2 => ?_
    have h3 : i < cs.length := by rw [iK] at h2; exact h2
    rw [qW cs i h3]
    have h4 := h.2 i h1 h3
    exact ⟨h4.1.1, h4.1.2.1, h4.1.2.2, h4.2⟩
  have hF : dp ub (L.filter fun x => !x.gone) ((aD cs).map (dG · false)) := by
    rw [← ji]
    exact hL.xG fun a b hab => by rw [hab.2.2.2]
  have hK : dp ub (gI way L) ((cf way (aD cs)).map (dG · false)) := by
    unfold gI cf
    split
    · have := dp.ins (f := bz) (g := bz) (fun a a' b b' h1 h2 => by unfold bz; rw [h1.2.1, h2.2.1]) hF (q := []) (r := []) .nil
      have e := qE (aD cs) []
      rw [List.map_nil] at e
      rwa [e] at this
    · exact hF
  refine ⟨by rw [hK.len, List.length_map], fun j h1 h2 => ?_⟩
  have := hK.get j h1 (by rw [List.length_map]; exact h2)
  rw [List.getElem_map] at this
  exact ⟨this.1, this.2.1, this.2.2.1⟩
theorem wR{way:Int}(hw:1≤way∧way≤4){l:List aa}{p:List GStep}(hev:l.length%2=0)(hnm: ∀i(h:i<l.length),i%2=0→bL l[i]): ∀c∈ei way l p,bL c.name:=by
 intro c hc;obtain⟨i,hi,rfl⟩:=List.getElem_of_mem hc;have hcl:=ea way l p;have h0:2*i<l.length:=by omega
 have h1:2*i+1<l.length:=by omega
 have hN:=hnm (2*i) h0 (by omega);cases ht:bF way with|true=>rw[(jV hi h0 h1 ht).1];exact jJ hN|false=>rw[(gX hi h0 h1 ht).1,hN.same (by rw[ht];simp)];exact hN
theorem SS.qa{w:World}{S:Nat→Prop}{l:List aM}{g c:Nat}(h:SS w S l (some ⟨g,0,none⟩) c){i:Nat}(hi:i<l.length): ∃A1 c1 A2 c2,S g∧aX l[i].at_∧bB l[i].name∧SS w S l[i].name.l A1 c1∧SS w S l[i].ls A2 c2∧w.cell? ⟨g,i*8,none⟩=some (.int .i64 l[i].at_)∧w.cell? ⟨g,i*8+1,none⟩=some (.int .i64 l[i].name.kind)∧w.cell? ⟨g,i*8+1+1,none⟩=some (.int .i64 l[i].name.n)∧w.cell? ⟨g,i*8+1+1+1,none⟩=some (.int .i64 l[i].name.x)∧w.cell? ⟨g,i*8+1+1+1+1,none⟩=some (.string l[i].name.s)∧w.cell? ⟨g,i*8+1+1+1+1+1,none⟩=some (.slice A1 l[i].name.l.length c1)∧w.cell? ⟨g,i*8+1+1+1+1+1+1,none⟩=some (.slice A2 l[i].ls.length c2)∧w.cell? ⟨g,i*8+1+1+1+1+1+1+1,none⟩=some (.bool l[i].gone):=by
 obtain⟨F,⟨h1,h2,h3⟩,hF⟩:=h;rcases h3 with⟨rfl,_⟩|⟨b,off,F',xs,hA,rfl,he,hc⟩;·simp at hi
 ·injection hA with hA;injection hA with e1 e2;subst e1 e2;obtain⟨F1,cs,hr,hs,hx⟩:=he.get i hi;have hk:=hc.sub hx;have hrs:RS w S l[i] cs:=⟨F1,hr,fun b hb=>hF b (List.mem_cons_of_mem _ (hs b hb))⟩;obtain⟨A1,c1,A2,c2,rfl,k1,k2,k3,k4⟩:=RS.conv hrs;rw[Nat.zero_add] at hk;exact⟨A1,c1,A2,c2,hF _ (List.mem_cons_self ..),k1,k2,k3,k4,hk 0 _ rfl,hk 1 _ rfl,hk 2 _ rfl,hk 3 _ rfl,hk 4 _ rfl,hk 5 _ rfl,hk 6 _ rfl,hk 7 _ rfl⟩
theorem wE{way:Int}{v:aa}(hk:v.kind=10)(hok:valOkP v=true)(hpot:potG v≤10000)(p:List GStep):(bX p (ei way v.l p)).length+((cf way (aD (ei way v.l p))).flatMap (·.vl)).length≤10001:=by
 have h1:=(cU way v p).1;have h2:=br v hok;rw[dQ hk] at h1;have h3:=(kv way (ei way v.l p) p).length_eq;unfold ei at h3;rw[h3] at h1;rw[List.length_append,List.length_append] at h1;unfold ei;omega
theorem ov{A B C D E:List ag}(h:(A++(C++D)).Perm E)(hc:B.Perm C):((A++B)++D).Perm E:=by
 rw[List.append_assoc];exact((hc.append_right D).append_left A).trans h
end
end Go.Proofs.YtodpdjehjllhdaaGreatDoor
