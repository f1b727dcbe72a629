/- Part of a proof: contracts and plain laws. -/
import Derived.Test.YtodpdjehjllhdaaGreatDoorW29
set_option linter.unusedVariables false
set_option linter.unusedSimpArgs false
set_option maxRecDepth 100000
set_option maxHeartbeats 20000000
namespace Go.Proofs.YtodpdjehjllhdaaGreatDoor
open Go.RowKit
def chainB:List aG→Bool|a::b::t=>decide (a.at_≤b.at_)&&chainB (b::t)|_=>true
theorem rO{a:aG}{l:List aG}(h:chainB (a::l)=true):chainB l=true:=by
 cases l with|nil=>rfl|cons b t=>rw[chainB,Bool.and_eq_true] at h;exact h.2
theorem mv: ∀(k:Nat)(l:List aG),chainB l=true→chainB (l.drop k)=true|0,l,h=>h|k+1,[],h=>rfl|k+1,a::l,h=>mv k l (rO h)
theorem vk{l:List aG}{m:Nat}(h:m+1<l.length):chainB (l.drop m)=(decide (l[m].at_≤l[m+1].at_)&&chainB (l.drop (m+1))):=by
 rw[List.drop_eq_getElem_cons (show m<l.length by omega),List.drop_eq_getElem_cons h,chainB]
theorem tG{l:List aG}{k:Nat}(h:l.length≤k+1):chainB (l.drop k)=true:=by
 have h1:(l.drop k).length≤1:=by rw[List.length_drop];omega
 match hl:l.drop k,h1 with|[],_=>rfl|[a],_=>rfl
theorem mC: ∀l:List aG,chainB l=true↔(l.map aG.at_).Pairwise (·≤ ·)|[]=>by simp[chainB]|[a]=>by simp[chainB]|a::b::t=>by have ih:=mC (b::t);rw[chainB,Bool.and_eq_true,decide_eq_true_iff,ih];simp only[List.map_cons,List.pairwise_cons];constructor;(·rintro⟨h1,h2,h3⟩;refine⟨fun x hx=> ?_,h2,h3⟩;rcases List.mem_cons.1 hx with rfl|hx;(·exact h1);·exact Int.le_trans h1 (h2 x hx));·rintro⟨h1,h2,h3⟩;exact⟨h1 _ (List.mem_cons_self ..),h2,h3⟩
theorem qp(l:List aG)(hat: ∀x∈l,0≤x.at_∧x.at_≤1000)(hl3:l.length≤1000)(A:Option Addr)(c:Nat)(w:World)(hl:SA w l A c)(hcf: ∀(a:Array Value)(w:World),(callFunc 207 a).run Tryz.prog w=.ok (.enter 207 a) w):Calls Tryz.prog 206 #[.slice A l.length c,.func (.func 207) #[] #[]] w (bW w (.bool (chainB l))):=by
 obtain⟨r,hr⟩: ∃r,r=chainB l:=⟨_,rfl⟩;rw[←hr];obtain⟨NL,hNL⟩: ∃NL,NL=l.length:=⟨_,rfl⟩;rw[←hNL];have HN:=AJ (AH hNL hr);clear hr hNL;have E:=AJ (AH hl hat);clear hl hat;have hN3:NL≤1000:=by have:=HN.out.1;omega
 have hwN:IntKind.i64.wrap ((NL:Int)-1)=(NL:Int)-1:=by rw[IntKind.wrap_i64];omega
 go_enter Tryz.func206,Tryz.ntmps206;go_wp2_with fail;go_loopg[5] NL (fun gk s5 wr=> ∃i:Int,s5=.int .i64 i∧ -1≤i∧i+1≤NL∧gk=(i+1).toNat∧Hid (chainB (l.drop i.toNat)=true)∧Below w.heap.size w wr);case atStart=>exact⟨(NL:Int)-1,by first|rfl|go_num,by omega,by omega,by omega,AJ (tG (by have:=HN.out.1;omega)),ae w⟩
 case round=>
  obtain⟨i,rfl,hi0,hi1,rfl,hC,hbel⟩:=hrel;by_cases hpos:0<i
  ·obtain⟨m,rfl⟩: ∃m:Nat,i=(m:Int)+1:=⟨(i-1).toNat,by omega⟩;have hm1:m+1<l.length:=by have:=HN.out.1;omega
   obtain⟨b,off,A1,c1,A2,c2,hAe,hb,hI1,hV1,hs1,hs2,k0,k1,k2,k3,k4,k5,k6,k7⟩:=(E.out.1.below hbel).kG hm1;obtain⟨b',off',A3,c3,A4,c4,hAe',hb',hI2,hV2,hs3,hs4,q0,q1,q2,q3,q4,q5,q6,q7⟩:=(E.out.1.below hbel).kG (show m<l.length by omega);subst hAe;injection hAe' with hAe';injection hAe' with e1 e2;subst e1 e2;obtain⟨x,hx⟩: ∃x,x=l[m+1]:=⟨_,rfl⟩;obtain⟨y,hy⟩: ∃y,y=l[m]:=⟨_,rfl⟩;rw[←hx] at k0 k1 k2 k3 k4 k5 k6 k7;rw[←hy] at q0 q1 q2 q3 q4 q5 q6 q7;have hxa:=E.out.2 x (by rw[hx];exact List.getElem_mem _);have hya:=E.out.2 y (by rw[hy];exact List.getElem_mem _);have hch:=vk hm1;rw[←hx,←hy] at hch;have hCt:chainB (l.drop (m+1))=true:=hC.out;rw[hCt,Bool.and_true] at hch;have HX:=AJ (AH hxa (AH hya hch));clear hxa hya hch hCt hC hx hy hI1 hV1 hs1 hs2 hI2 hV2 hs3 hs4 hb';have hf1:((m:Int)+1).toNat=m+1:=by omega
   have hf2:IntKind.i64.wrap ((m:Int)+1-1)=(m:Int):=by rw[IntKind.wrap_i64];omega
   have hf7:IntKind.i64.wrap (m:Int)=(m:Int):=by rw[IntKind.wrap_i64];omega
   have hf3:(m:Int)+1<(NL:Int):=by omega
   have hf4:(m:Int)<(NL:Int):=by omega
   have hf5:(0:Int)≤(m:Int)+1:=by omega
   have hf6:(0:Int)≤(m:Int):=by omega
   go_wp2_with fail;go_still_tail 10,(by kernel_rfl);change wpList _ _ _ _ _ wr.drew;go_wp2_with fail;refine(vt x y HX.out.1 HX.out.2.1 A1 A2 A3 A4 c1 c2 c3 c4 _).mono ?_;rintro e w1 ⟨rfl,hb1⟩;have HB:=AJ (ak hbel.drew hb1);clear hb1 k0 k1 k2 k3 k4 k5 k6 k7 q0 q1 q2 q3 q4 q5 q6 q7;obtain⟨d,hd⟩: ∃d,d=uU x y:=⟨_,rfl⟩;rw[←hd];have hdl:d<0↔ ¬(y.at_≤x.at_):=by rw[hd];unfold uU;omega
   have HD:=AJ hdl;clear hdl hd;by_cases hneg:d<0
   ·have hr0:r=false:=by have h1:=HX.out.2.2;rw[decide_eq_false (HD.out.1 hneg)] at h1;have h2:=mv m l;rw[HN.out.2];cases h3:chainB l with|false=>rfl|true=>rw[h2 h3] at h1;cases h1
    go_wp2_with fail;go_ret;exact⟨by rw[hr0];rfl,HB.out⟩
   ·have hC2:chainB (l.drop m)=true:=by rw[HX.out.2.2];exact decide_eq_true (Decidable.not_not.1 fun h=>hneg (HD.out.2 h))
    have HC2:=AJ hC2;clear hC2;go_wp2_with fail;go_roundg(m+1);case measure=>omega
    case rel=>exact⟨(m:Int),by first|rfl|go_num,by omega,by omega,by omega,AJ (by rw[Int.toNat_natCast];exact HC2.out),HB.out⟩
  ·have hr1:r=true:=by have h1:=hC.out;rw[show i.toNat=0 from by omega,List.drop_zero] at h1;rw[HN.out.2];exact h1
   have HR:=AJ hr1;clear hr1;go_wp2_with fail;go_ret;exact⟨by rw[HR.out];rfl,hbel⟩
section
inductive dV {α β : Type} (R : α → β → Prop) : List α → List β → Prop
  | nil : dV R [] []
  | cons {a : α} {b : β} {l : List α} {m : List β} : R a b → dV R l m → dV R (a :: l) (b :: m)
section
variable {α β : Type} {R : α → β → Prop}
theorem dV.len{l:List α}{m:List β}(h:dV R l m):l.length=m.length:=by
 induction h with|nil=>rfl|cons _ _ ih=>simp[ih]
theorem dV.get{l:List α}{m:List β}(h:dV R l m): ∀i(h1:i<l.length)(h2:i<m.length),R l[i] m[i]:=by
 induction h with|nil=>intro i h1;simp at h1|cons h _ ih=>intro i h1 h2;cases i with|zero=>exact h|succ i=>exact ih i (by simpa using h1) (by simpa using h2)
theorem dV.of: ∀(l:List α)(m:List β),l.length=m.length→(∀i(h1:i<l.length)(h2:i<m.length),R l[i] m[i])→dV R l m|[],[],_,_=>.nil|[],_::_,h,_=>by simp at h|_::_,[],h,_=>by simp at h|a::l,b::m,h,hR=>.cons (hR 0 (by simp) (by simp)) (dV.of l m (by simpa using h) fun i h1 h2=>hR (i+1) (by simpa using h1) (by simpa using h2))
theorem dV.AB{f:α→Bool}{g:β→Bool}(hfg: ∀a b,R a b→f a=g b){l:List α}{m:List β}(h:dV R l m):dV R (l.filter f) (m.filter g):=by
 induction h with|nil=>exact .nil|cons h _ ih=>rw[List.filter_cons,List.filter_cons,hfg _ _ h];split;(·exact .cons h ih);·exact ih
theorem dV.app{l l':List α}{m m':List β}(h:dV R l m)(h':dV R l' m'):dV R (l++l') (m++m'):=by
 induction h with|nil=>exact h'|cons h _ ih=>exact .cons h ih
theorem dV.rev{l:List α}{m:List β}(h:dV R l m):dV R l.reverse m.reverse:=by
 induction h with|nil=>exact .nil|cons h _ ih=>rw[List.reverse_cons,List.reverse_cons];exact ih.app (.cons h .nil)
theorem dV.Ac{f:α→α→Bool}{g:β→β→Bool}(hfg: ∀a a' b b',R a b→R a' b'→f a a'=g b b'){x:α}{y:β}(hx:R x y){l:List α}{m:List β}(h:dV R l m):dV R (cI f x l) (cI g y m):=by
 induction h with|nil=>exact .cons hx .nil|cons h hl ih=>rw[cI,cI,hfg _ _ _ _ hx h];split;(·exact .cons h ih);·exact .cons hx (.cons h hl)
theorem dV.ins{f:α→α→Bool}{g:β→β→Bool}(hfg: ∀a a' b b',R a b→R a' b'→f a a'=g b b'){l:List α}{m:List β}(h:dV R l m): ∀{q:List α}{r:List β},dV R q r→dV R (aq f q l) (aq g r m):=by
 induction h with|nil=>intro q r hq;exact hq|cons h _ ih=>intro q r hq;rw[aq,aq];refine ih ?_;unfold cw;exact(dV.Ac hfg h hq.rev).rev
end
def xr(x:aG)(y:aG):Prop:=x.at_=y.at_∧x.name=y.name∧x.ls.Perm y.ls∧x.gone=y.gone
theorem nL {way : Int} {cs : List ah} {L : List aG} (h : uy cs L) : (gj way L).length = (aZ way (au cs)).length ∧ ∀ j (h1 : j < (gj way L).length) (h2 : j < (aZ way (au cs)).length), xh (gj way L)[j] (aZ way (au cs))[j] := by
  have hL : dV xr L (lj cs) := by
    refine dV.of _ _ (by rw [jk]; exact h.1) fun i h1 h2 => ?_
    have h3 : i < cs.length := by rw [jk] at h2; exact h2
    rw [rz cs i h3]
    have h4 := h.2 i h1 h3
    exact ⟨h4.1.1, h4.1.2.1, h4.1.2.2, h4.2⟩
  have hF : dV xr (L.filter fun x => !x.gone) ((au cs).map (eg · false)) := by
    rw [← kb]
    exact hL.AB fun a b hab => by rw [hab.2.2.2]
  have hK : dV xr (gj way L) ((aZ way (au cs)).map (eg · false)) := by
    unfold gj aZ
    split
    · have := dV.ins (f := bC) (g := bC) (fun a a' b b' h1 h2 => by unfold bC; rw [h1.2.1, h2.2.1]) hF (q := []) (r := []) .nil
      have e := ru (au cs) []
      rw [List.map_nil] at e
      rwa [e] at this
    · exact hF
  refine ⟨by rw [hK.len, List.length_map], fun j h1 h2 => ?_⟩
  have := hK.get j h1 (by rw [List.length_map]; exact h2)
  rw [List.getElem_map] at this
  exact ⟨this.1, this.2.1, this.2.2.1⟩
theorem xn{way:Int}(hw:1≤way∧way≤4){l:List aa}{p:List GStep}(hev:l.length%2=0)(hnm: ∀i(h:i<l.length),i%2=0→bN l[i]): ∀c∈bX way l p,bN c.name:=by
 intro c hc;obtain⟨i,hi,rfl⟩:=List.getElem_of_mem hc;have hcl:=cV way l p;have h0:2*i<l.length:=by omega
 have h1:2*i+1<l.length:=by omega
 have hN:=hnm (2*i) h0 (by omega);cases ht:bn way with|true=>rw[(iG hi h0 h1 ht).1];exact kv hN|false=>rw[(gF hi h0 h1 ht).1,hN.same (by rw[ht];simp)];exact hN
theorem SS.sK{w:World}{S:Nat→Prop}{l:List aG}{g c:Nat}(h:SS w S l (some ⟨g,0,none⟩) c){i:Nat}(hi:i<l.length): ∃A1 c1 A2 c2,S g∧aT l[i].at_∧bq l[i].name∧SS w S l[i].name.l A1 c1∧SS w S l[i].ls A2 c2∧w.cell? ⟨g,i*8,none⟩=some (.int .i64 l[i].at_)∧w.cell? ⟨g,i*8+1,none⟩=some (.int .i64 l[i].name.kind)∧w.cell? ⟨g,i*8+1+1,none⟩=some (.int .i64 l[i].name.n)∧w.cell? ⟨g,i*8+1+1+1,none⟩=some (.int .i64 l[i].name.x)∧w.cell? ⟨g,i*8+1+1+1+1,none⟩=some (.string l[i].name.s)∧w.cell? ⟨g,i*8+1+1+1+1+1,none⟩=some (.slice A1 l[i].name.l.length c1)∧w.cell? ⟨g,i*8+1+1+1+1+1+1,none⟩=some (.slice A2 l[i].ls.length c2)∧w.cell? ⟨g,i*8+1+1+1+1+1+1+1,none⟩=some (.bool l[i].gone):=by
 obtain⟨F,⟨h1,h2,h3⟩,hF⟩:=h;rcases h3 with⟨rfl,_⟩|⟨b,off,F',xs,hA,rfl,he,hc⟩;·simp at hi
 ·injection hA with hA;injection hA with e1 e2;subst e1 e2;obtain⟨F1,cs,hr,hs,hx⟩:=he.get i hi;have hk:=hc.sub hx;have hrs:RS w S l[i] cs:=⟨F1,hr,fun b hb=>hF b (List.mem_cons_of_mem _ (hs b hb))⟩;obtain⟨A1,c1,A2,c2,rfl,k1,k2,k3,k4⟩:=RS.conv hrs;rw[Nat.zero_add] at hk;exact⟨A1,c1,A2,c2,hF _ (List.mem_cons_self ..),k1,k2,k3,k4,hk 0 _ rfl,hk 1 _ rfl,hk 2 _ rfl,hk 3 _ rfl,hk 4 _ rfl,hk 5 _ rfl,hk 6 _ rfl,hk 7 _ rfl⟩
theorem yZ{way:Int}{v:aa}(hk:v.kind=10)(hok:valOkP v=true)(hpot:potG v≤10000)(p:List GStep):(cf p (bX way v.l p)).length+((aZ way (au (bX way v.l p))).flatMap (·.vl)).length≤10001:=by
 have h1:=(dI way v p).1;have h2:=bm v hok;rw[dM hk] at h1;have h3:=(la way (bX way v.l p) p).length_eq;unfold bX at h3;rw[h3] at h1;rw[List.length_append,List.length_append] at h1;unfold bX;omega
theorem py{A B C D E:List ag}(h:(A++(C++D)).Perm E)(hc:B.Perm C):((A++B)++D).Perm E:=by
 rw[List.append_assoc];exact((hc.append_right D).append_left A).trans h
end
end Go.Proofs.YtodpdjehjllhdaaGreatDoor
