/- Part of a proof: contracts and plain laws. -/
import Derived.Test.YtodpdjehjllhdaaGreatDoorZ15
import Derived.Lib.AppendStr
import Derived.Test.YtodpdjehjllhdaaGreatDoorZ14
set_option linter.unusedVariables false
set_option maxRecDepth 100000
set_option maxHeartbeats 20000000
namespace Go.Proofs.YtodpdjehjllhdaaGreatDoor
open Go.RowKit
theorem mn(s:ByteArray):(s.toList==s.toList)=true:=by
 simp
theorem kT{s t:ByteArray}(h:s≠t):(s.toList==t.toList)=false:=by
 rw[wJ];simpa using h
theorem fR{l l':List aa}{k:Nat}(h:k<l.length)(h':k<l'.length)(ht:l.take k=l'.take k)(e:l[k]=l'[k]):l.take (k+1)=l'.take (k+1):=by
 rw[List.take_succ_eq_append_getElem h,List.take_succ_eq_append_getElem h',ht,e]
def uy(v:aa):Prop:= ∀(u:aa)(A A':Option Addr)(c c':Nat)(w:World),SA w v.l A c→SA w u.l A' c'→Calls Tryz.prog 72 #[.agg #[.int .i64 v.kind,.int .i64 v.n,.int .i64 v.x,.string v.s,.slice A v.l.length c],.agg #[.int .i64 u.kind,.int .i64 u.n,.int .i64 u.x,.string u.s,.slice A' u.l.length c']] w (cd w (.bool (decide (v=u))))
theorem kG(v:aa):uy v:=by
 refine aa.ind (p:=uy) (fun v IH=> ?_) v;intro u A A' c c' w hx hy;have hl:v.l.length≤9223372036854775807:=by have:=hx.len;unfold maxLen at this;omega
 have hl':u.l.length≤9223372036854775807:=by have:=hy.len;unfold maxLen at this;omega
 obtain⟨r,hr⟩: ∃r,r=decide (v=u):=⟨_,rfl⟩;rw[←hr];have HR:=xQ hr;clear hr;obtain⟨k,n,x,s,l⟩:=v;obtain⟨k',n',x',s',l'⟩:=u;simp only at hx hy hl hl' IH;have IH':=xQ IH;clear IH;have E:=xQ (xP hx hy);clear hx hy;have B0:=xQ (ab (ab (af w) (.cells #[.int .i64 k,.int .i64 n,.int .i64 x,.string s,.slice A l.length c] 27)) (.cells #[.int .i64 k',.int .i64 n',.int .i64 x',.string s',.slice A' l'.length c'] 27));have P0:=xQ ((ah.new w 27 #[.int .i64 k,.int .i64 n,.int .i64 x,.string s,.slice A l.length c]).alloc (.cells #[.int .i64 k',.int .i64 n',.int .i64 x',.string s',.slice A' l'.length c'] 27));have P1:=xQ (ah.at (w:=w.alloc (.cells #[.int .i64 k,.int .i64 n,.int .i64 x,.string s,.slice A l.length c] 27)) (g:=w.heap.size+1) (t:=27) (cs:=#[.int .i64 k',.int .i64 n',.int .i64 x',.string s',.slice A' l'.length c']) (by simp));by_cases h1:k=k'
 ·subst h1;by_cases h2:n=n'
  ·subst h2;by_cases h3:x=x'
   ·subst h3;by_cases h4:s=s'
    ·subst h4;have hs1:=mn s;by_cases h5:l.length=l'.length
     ·have h5':((l.length:Int) != l'.length)=false:=by simp[h5]
      have H5:=xQ h5;clear h5;go_enter Tryz.func72,Tryz.ntmps72;go_wp2_with fail;go_loopg[5] l.length (fun gk i wr=> ∃(j:Nat),j≤l.length∧i=.int .i64 j∧gk=l.length-j∧Hid (l.take j=l'.take j)∧ah wr w.heap.size 27 #[.int .i64 k,.int .i64 n,.int .i64 x,.string s,.slice A l.length c]∧ah wr (w.heap.size+1) 27 #[.int .i64 k,.int .i64 n,.int .i64 x,.string s,.slice A' l'.length c']∧Below w.heap.size w wr);case atStart=>exact⟨0,by omega,rfl,by omega,rfl,P0.out,P1.out,B0.out⟩
      case round=>
       obtain⟨j,hj,rfl,rfl,hT,hP0,hP1,hbel⟩:=hrel;by_cases hlt:j<l.length
       ·have hlt':j<l'.length:=H5.out▸hlt;obtain⟨b,off,A1,c1,rfl,hb,hI,hs,k0,k1,k2,k3,k4⟩:=(E.out.1.below hbel).cE hlt;obtain⟨b',off',A2,c2,rfl,hb',hI',hs',q0,q1,q2,q3,q4⟩:=(E.out.2.below hbel).cE hlt';have hz0:=hP0.lt;have hz1:=hP1.lt;obtain⟨p0,p1,p2,p3,p4⟩:=hP0.c5;obtain⟨r0,r1,r2,r3,r4⟩:=hP1.c5;have hi1:(j:Int)<l.length:=by omega
        have hi2:(j:Int)<l'.length:=by omega
        have hi3:(0:Int)≤j:=by omega
        have HS:=xQ (xP hs hs');clear hs hs' hI hI';rcases Decidable.em (l[j]=l'[j]) with hq|hq
        ·have HQ:=xQ hq;clear hq;go_wp2_with fail;go_still_tail 10,(by kernel_rfl);change wpList _ _ _ _ _ wr.drew;go_wp2_with fail;refine(IH'.out j hlt l'[j] A1 A2 c1 c2 _ HS.out.1.drew HS.out.2.drew).mono ?_;rintro e w1 ⟨rfl,hb1⟩;rw[decide_eq_true HQ.out];have HB:=xQ hb1;clear hb1;go_wp2_with fail;go_roundg(l.length-(j+1));case measure=>omega
         case rel=>exact⟨j+1,by omega,by go_num,rfl,fR hlt hlt' hT.out HQ.out,hP0.drew.below HB.out,hP1.drew.below HB.out,al hbel.drew HB.out⟩
        ·have HQ:=xQ hq;clear hq;have hr0:r=false:=by rw[HR.out];simp only[decide_eq_false_iff_not];intro e;injection e with _ _ _ _ e;subst e;exact HQ.out rfl
         subst hr0;go_wp2_with fail;go_still_tail 10,(by kernel_rfl);change wpList _ _ _ _ _ wr.drew;go_wp2_with fail;refine(IH'.out j hlt l'[j] A1 A2 c1 c2 _ HS.out.1.drew HS.out.2.drew).mono ?_;rintro e w1 ⟨rfl,hb1⟩;rw[decide_eq_false HQ.out];have HB:=xQ hb1;clear hb1;go_wp2_with fail;go_ret;exact⟨rfl,al hbel.drew HB.out⟩
       ·have e:j=l.length:=by omega
        have hr0:r=true:=by have h:=hT.out;rw[e,List.take_length,H5.out,List.take_length] at h;rw[HR.out,h];simp
        subst hr0;obtain⟨p0,p1,p2,p3,p4⟩:=hP0.c5;have hz0:=hP0.lt;have HB:=xQ hbel;clear hbel hP0 hP1 hT;go_wp2_with fail;go_ret;exact⟨rfl,HB.out⟩
     ·have h5':((l.length:Int) != l'.length)=true:=by simp;omega
      have hr0:r=false:=by rw[HR.out];simp only[decide_eq_false_iff_not];intro e;injection e with _ _ _ _ e;exact h5 (by rw[e])
      subst hr0;clear h5;go_enter Tryz.func72,Tryz.ntmps72;go_wp2_with fail;go_ret;exact⟨rfl,B0.out⟩
    ·have h4':=kT h4;have hr0:r=false:=by rw[HR.out];simp only[decide_eq_false_iff_not];intro e;injection e with _ _ _ e _;exact h4 e
     subst hr0;clear h4;go_enter Tryz.func72,Tryz.ntmps72;go_wp2_with fail;go_ret;exact⟨rfl,B0.out⟩
   ·have h3':(x != x')=true:=by simpa using h3
    have hr0:r=false:=by rw[HR.out];simp only[decide_eq_false_iff_not];intro e;injection e with _ _ e _ _;exact h3 e
    subst hr0;clear h3;go_enter Tryz.func72,Tryz.ntmps72;go_wp2_with fail;go_ret;exact⟨rfl,B0.out⟩
  ·have h2':(n != n')=true:=by simpa using h2
   have hr0:r=false:=by rw[HR.out];simp only[decide_eq_false_iff_not];intro e;injection e with _ e _ _ _;exact h2 e
   subst hr0;clear h2;go_enter Tryz.func72,Tryz.ntmps72;go_wp2_with fail;go_ret;exact⟨rfl,B0.out⟩
 ·have h1':(k != k')=true:=by simpa using h1
  have hr0:r=false:=by rw[HR.out];simp only[decide_eq_false_iff_not];intro e;injection e with e _ _ _ _;exact h1 e
  subst hr0;clear h1;go_enter Tryz.func72,Tryz.ntmps72;go_wp2_with fail;go_ret;exact⟨rfl,B0.out⟩
def qq(v:aa):Prop:= ∀(u:aa)(A A':Option Addr)(c c':Nat)(w:World),SA w v.l A c→SA w u.l A' c'→Calls Tryz.prog 71 #[.agg #[.int .i64 v.kind,.int .i64 v.n,.int .i64 v.x,.string v.s,.slice A v.l.length c],.agg #[.int .i64 u.kind,.int .i64 u.n,.int .i64 u.x,.string u.s,.slice A' u.l.length c']] w (cd w (.bool (decide (v=u))))
theorem nM(l l':List aa)(IH: ∀i(hi:i<l.length),qq l[i])(A A':Option Addr)(c c':Nat)(w:World)(hx:SA w l A c)(hy:SA w l' A' c')(hcf: ∀(a:Array Value)(w:World),(callFunc 71 a).run Tryz.prog w=.ok (.enter 71 a) w):Calls Tryz.prog 128 #[.slice A l.length c,.slice A' l'.length c',.func (.func 71) #[] #[]] w (cd w (.bool (decide (l=l')))):=by
 have hl:l.length≤9223372036854775807:=by have:=hx.len;unfold maxLen at this;omega
 have hl':l'.length≤9223372036854775807:=by have:=hy.len;unfold maxLen at this;omega
 obtain⟨r,hr⟩: ∃r,r=decide (l=l'):=⟨_,rfl⟩;rw[←hr];have HR:=xQ hr;clear hr;have IH':=xQ IH;clear IH;have E:=xQ (xP hx hy);clear hx hy;by_cases h5:l.length=l'.length
 ·have h5':((l.length:Int) != l'.length)=false:=by simp[h5]
  have H5:=xQ h5;clear h5;go_enter Tryz.func128,Tryz.ntmps128;go_wp2_with fail;go_loopg[17] l.length (fun gk i wr=> ∃(j:Nat),j≤l.length∧i=.int .i64 j∧gk=l.length-j∧Hid (l.take j=l'.take j)∧Below w.heap.size w wr);case atStart=>exact⟨0,by omega,rfl,by omega,rfl,af w⟩
  case round=>
   obtain⟨j,hj,rfl,rfl,hT,hbel⟩:=hrel;by_cases hlt:j<l.length
   ·have hlt':j<l'.length:=H5.out▸hlt;obtain⟨b,off,A1,c1,rfl,hb,hI,hs,k0,k1,k2,k3,k4⟩:=(E.out.1.below hbel).cE hlt;obtain⟨b',off',A2,c2,rfl,hb',hI',hs',q0,q1,q2,q3,q4⟩:=(E.out.2.below hbel).cE hlt';have hi1:(j:Int)<l.length:=by omega
    have hi2:(j:Int)<l'.length:=by omega
    have hi3:(0:Int)≤j:=by omega
    have HS:=xQ (xP hs hs');clear hs hs' hI hI';have HB0:=xQ hbel;clear hbel;rcases Decidable.em (l[j]=l'[j]) with hq|hq
    ·have HQ:=xQ hq;clear hq;go_wp2_with fail;refine(IH'.out j hlt l'[j] A1 A2 c1 c2 _ (HS.out.1.below (ab (ab (af wr) _) _)) (HS.out.2.below (ab (ab (af wr) _) _))).mono ?_;rintro e w1 ⟨rfl,hb1⟩;rw[decide_eq_true HQ.out];have HB:=xQ (al (ab (ab HB0.out _) _) hb1);clear hb1;go_wp2_with fail;go_roundg(l.length-(j+1));case measure=>omega
     case rel=>exact⟨j+1,by omega,by go_num,rfl,fR hlt hlt' hT.out HQ.out,HB.out⟩
    ·have HQ:=xQ hq;clear hq;have hr0:r=false:=by rw[HR.out];simp only[decide_eq_false_iff_not];intro e;subst e;exact HQ.out rfl
     subst hr0;go_wp2_with fail;refine(IH'.out j hlt l'[j] A1 A2 c1 c2 _ (HS.out.1.below (ab (ab (af wr) _) _)) (HS.out.2.below (ab (ab (af wr) _) _))).mono ?_;rintro e w1 ⟨rfl,hb1⟩;rw[decide_eq_false HQ.out];have HB:=xQ (al (ab (ab HB0.out _) _) hb1);clear hb1;go_wp2_with fail;go_ret;exact⟨rfl,HB.out⟩
   ·have e:j=l.length:=by omega
    have hr0:r=true:=by have h:=hT.out;rw[e,List.take_length,H5.out,List.take_length] at h;rw[HR.out,h];simp
    subst hr0;have HB:=xQ hbel;clear hbel hT;go_wp2_with fail;go_ret;exact⟨rfl,HB.out⟩
 ·have h5':((l.length:Int) != l'.length)=true:=by simp;omega
  have hr0:r=false:=by rw[HR.out];simp only[decide_eq_false_iff_not];intro e;exact h5 (by rw[e])
  subst hr0;clear h5;go_enter Tryz.func128,Tryz.ntmps128;go_wp2_with fail;go_ret;exact⟨rfl,af w⟩
theorem oz(v:aa):qq v:=by
 refine aa.ind (p:=qq) (fun v IH=> ?_) v;intro u A A' c c' w hx hy;obtain⟨r,hr⟩: ∃r,r=decide (v=u):=⟨_,rfl⟩;rw[←hr];have HR:=xQ hr;clear hr;obtain⟨k,n,x,s,l⟩:=v;obtain⟨k',n',x',s',l'⟩:=u;simp only at hx hy IH;have B0:=xQ (ab (ab (af w) (.cells #[.int .i64 k,.int .i64 n,.int .i64 x,.string s,.slice A l.length c] 27)) (.cells #[.int .i64 k',.int .i64 n',.int .i64 x',.string s',.slice A' l'.length c'] 27));have HC:=xQ (nM l l' IH A A' c c' _ (hx.below B0.out) (hy.below B0.out) (fun a w=>by kernel_rfl));clear hx hy IH;by_cases h1:k=k'
 ·subst h1;by_cases h2:n=n'
  ·subst h2;by_cases h3:x=x'
   ·subst h3;by_cases h4:s=s'
    ·subst h4;have hs1:=mn s;have hr0:r=decide (l=l'):=by rw[HR.out];simp
     have HR0:=xQ hr0;clear hr0;go_enter Tryz.func71,Tryz.ntmps71;go_wp2_with fail;refine HC.out.mono ?_;rintro e w1 ⟨rfl,hb1⟩;rw[←HR0.out];have HB:=xQ (al B0.out hb1);clear hb1;go_wp2_with fail;go_ret;exact⟨rfl,HB.out⟩
    ·have h4':=kT h4;have hr0:r=false:=by rw[HR.out];simp only[decide_eq_false_iff_not];intro e;injection e with _ _ _ e _;exact h4 e
     subst hr0;clear h4;go_enter Tryz.func71,Tryz.ntmps71;go_wp2_with fail;go_ret;exact⟨rfl,B0.out⟩
   ·have h3':(x==x')=false:=by simpa using h3
    have hr0:r=false:=by rw[HR.out];simp only[decide_eq_false_iff_not];intro e;injection e with _ _ e _ _;exact h3 e
    subst hr0;clear h3;go_enter Tryz.func71,Tryz.ntmps71;go_wp2_with fail;go_ret;exact⟨rfl,B0.out⟩
  ·have h2':(n==n')=false:=by simpa using h2
   have hr0:r=false:=by rw[HR.out];simp only[decide_eq_false_iff_not];intro e;injection e with _ e _ _ _;exact h2 e
   subst hr0;clear h2;go_enter Tryz.func71,Tryz.ntmps71;go_wp2_with fail;go_ret;exact⟨rfl,B0.out⟩
 ·have h1':(k==k')=false:=by simpa using h1
  have hr0:r=false:=by rw[HR.out];simp only[decide_eq_false_iff_not];intro e;injection e with e _ _ _ _;exact h1 e
  subst hr0;clear h1;go_enter Tryz.func71,Tryz.ntmps71;go_wp2_with fail;go_ret;exact⟨rfl,B0.out⟩
section
theorem nR(s:ByteArray):Lib.strCells s=s.data.toList.map fun b=>Value.int .u8 (b.toNat:Int):=by
 first|rfl|(unfold Lib.strCells;simp)|(unfold Lib.strCells;rw[ByteArray.toList_eq])
theorem fF{P:Program}{W:World}(t u ty:TypeId)(base:Nat)(e:TypeId)(ht:P.underlying t=some (.slice e))(hu:P.underlying u=some .string)(hinfo:(P.info? e).map (fun i=>(i.zero,i.size,i.bytes))=some (some (.int .u8 0),1,1))(v:Value)(l:List UInt8)(s:ByteArray)(hown:aC W base e v l)(h63:l.length+s.size≤1099511627776)(hbW:base≤W.heap.size): ∃v' w',(Builtin.append_ #[t,u] ty #[v,.string s]).run P W=.ok v' w'∧aC w' base e v' (l++s.data.toList)∧Below base W w':=by
 obtain⟨i,hi,hz,hsize,hby⟩:=info_parts hinfo;obtain⟨F,hC,hFr⟩:=hown;have hgl:=hC.ar;obtain⟨xs,h1,h2,h3⟩:=hC;have hF:F=[]:=by(have key: ∀(l:List UInt8)(F:List Nat)(xs:List Value),aH W l F xs→F=[]:=by intro l;induction l with|nil=>intro F xs h;exact h.1|cons a l ih=>rintro F xs ⟨F1,F2,cs,ys,rfl,rfl,hr,he⟩;rw[ih _ _ he,hr.1];rfl);exact key l F xs h2
 subst hF;obtain⟨v',w',hrun,h4,h5,_⟩:=Lib.run_append_own_string (P:=P) (w:=W) base t u ty e i ht hu hi hz hsize hby v l.length xs h1 s (by unfold maxLen;omega) (by omega) hbW;have hl:s.data.toList.length=s.size:=by rw[Array.length_toList];rfl
 refine⟨v',w',hrun,⟨[],⟨xs++Lib.strCells s,?_,?_,by simp⟩,b7.nil _ _⟩,bR h5 hbW fun k hk=>(hgl k hk).1⟩;·rw[List.length_append,hl];exact h4
 ·rw[nR];have h6:aH w' l [] xs:=h2.an (by simp);exact h6.append (aH.bytes w' s.data.toList)
variable {P : Program} {W : World} {ops : Array Oper} {rest : List Oper} {o : Oper} {a : Act} {Q : Exit → Act → World → Prop} {R : Value → World → Prop}
theorem sD{K:Act→World→Prop}(s x:Operand)(t t2:TypeId)(ho:o.op=.call {callee:=.builtin .append,args:=#[s,x],argTypes:=#[t,t2]}){v u:Value}(hs:a.eval s=v)(hx:a.eval x=u)(hrun: ∃v' w',(Builtin.append_ #[t,t2] o.type #[v,u]).run P W=.ok v' w'∧R v' w')(h: ∀v' w',R v' w'→K (a.put o.dst v') w'):o.wp P a W K Q:=by
 obtain⟨v',w',hr,h1⟩:=hrun;unfold Oper.wp execOp;simp only[ho,resolve,invoke,builtin,Sem.run_bind,Sem.run_pure,Result.andThen_ok,List.map_toArray,List.map_cons,List.map_nil,hs,hx,hr];exact h v' w' h1
theorem oJ(hgd:o.guard=none)(s x:Operand)(t t2:TypeId)(ho:o.op=.call {callee:=.builtin .append,args:=#[s,x],argTypes:=#[t,t2]}){v u:Value}(hs:a.eval s=v)(hx:a.eval x=u)(hrun: ∃v' w',(Builtin.append_ #[t,t2] o.type #[v,u]).run P W=.ok v' w'∧R v' w')(h: ∀v' w',R v' w'→wpList P ops Q rest (a.put o.dst v') w'):wpList P ops Q (o::rest) a W:=wpList_plain hgd fun _ hK=>sD s x t t2 ho hs hx hrun fun v' w' hR=>hK _ _ (h v' w' hR)
theorem tW{K:Act→World→Prop}{E:Prop}(hgd:o.guard=none)(s x:Operand)(t t2:TypeId)(ho:o.op=.call {callee:=.builtin .append,args:=#[s,x],argTypes:=#[t,t2]}){v u:Value}(hs:a.eval s=v)(hx:a.eval x=u)(hrun: ∃v' w',(Builtin.append_ #[t,t2] o.type #[v,u]).run P W=.ok v' w'∧R v' w')(h: ∀v' w',R v' w'→K (a.put o.dst v') w'):if Region.wanted o (yielded ops a.tmps)=true then Oper.wp P o a W K Q else E:=by
 have hw:Region.wanted o (yielded ops a.tmps)=true:=by simp[Region.wanted,hgd]
 rw[if_pos hw];exact sD s x t t2 ho hs hx hrun h
end
theorem gH(m n:Int)(w:World)(hm:m=0∨m=3)(h0:0≤n)(h1:n≤23):Calls Tryz.prog 333 #[.agg #[.int .i64 m,.int .i64 n,.int .i64 0]] w (cd w (.bool true)):=by
 have B0:=xQ (ab (af w) (.cells #[.int .i64 m,.int .i64 n,.int .i64 0] 221));have hd1:decide (0≤m∧m≤7)=true:=decide_eq_true (by omega);have hd2:decide (0≤n∧n≤1000000000000000)=true:=decide_eq_true (by omega);have HD:=xQ (xP hd1 hd2);clear hd1 hd2 hm;go_enter Tryz.func333,Tryz.ntmps333;go_wp2_with fail;refine(aL m 0 7 _).mono ?_;rintro e w1 ⟨rfl,rfl⟩;rw[HD.out.1];go_wp2_with fail;refine(aL n 0 1000000000000000 _).mono ?_;rintro e w1 ⟨rfl,rfl⟩;rw[HD.out.2];go_wp2_with fail;go_ret;exact⟨rfl,B0.out⟩
theorem gb(m n:Int)(w:World)(hm:m=0∨m=3)(h0:0≤n)(h1:n≤23):Calls Tryz.prog 299 #[.int .i64 m,.int .i64 n] w (cd w (.agg #[.int .i64 m,.int .i64 n,.int .i64 0])):=by
 have B0:=xQ (ab (ab (af w) (.cells #[.int .i64 0,.int .i64 0,.int .i64 0] 221)) (.cells #[.int .i64 m,.int .i64 n,.int .i64 0] 221));have Z0:=xQ ((ah.new w 221 #[.int .i64 0,.int .i64 0,.int .i64 0]).alloc (.cells #[.int .i64 m,.int .i64 n,.int .i64 0] 221));have T0:=xQ (ah.at (w:=w.alloc (.cells #[.int .i64 0,.int .i64 0,.int .i64 0] 221)) (g:=w.heap.size+1) (t:=221) (cs:=#[.int .i64 m,.int .i64 n,.int .i64 0]) (by simp));have HM:=xQ hm;clear hm;go_enter Tryz.func299,Tryz.ntmps299;go_wp2_with fail;refine(gH m n _ HM.out h0 h1).mono ?_;rintro e w1 ⟨rfl,hb⟩;have Z1:=xQ (Z0.out.below hb);have T1:=xQ (T0.out.below hb);have HB:=xQ (al B0.out hb);clear hb;obtain⟨t0,t1,t2⟩:=T1.out.c3;have ht:=T1.out.lt;obtain⟨p0,p1,p2⟩:=Z1.out.c3;have f0:=Z1.out.frozen 0;have f1:=Z1.out.frozen 1;have f2:=Z1.out.frozen 2;have hzz:=Z1.out.lt;go_wp2_with fail;refine bodyPost_ret (v:=.agg #[.int .i64 m,.int .i64 n,.int .i64 0]) (by simp[results,Tryz.results299,go_sem, *]) rfl ?_;exact⟨rfl,((HB.out.setCell (p:=⟨_,0,none⟩) (Nat.le_refl _) _).setCell (p:=⟨_,1,none⟩) (Nat.le_refl _) _).setCell (p:=⟨_,2,none⟩) (Nat.le_refl _) _⟩
theorem SA.v7(w:World)(t:TypeId)(a:UInt8):SA (w.alloc (.cells #[.int .u8 (a.toNat:Int)] t)) [a] (some ⟨w.heap.size,0,none⟩) 1:=by
 refine⟨[w.heap.size],⟨by simp,by unfold maxLen;omega,.inr ⟨w.heap.size,0,[],[.int .u8 (a.toNat:Int)],rfl,rfl,⟨[],[],[_],[],rfl,rfl,⟨rfl,rfl⟩,rfl,rfl⟩,?_⟩⟩,by simp⟩;intro j v hj;have hc:=aJ (w:=w) (t:=t) (g:=w.heap.size) [.int .u8 (a.toNat:Int)] rfl j v hj;have e1:(⟨w.heap.size,0,none⟩:Addr).add j=⟨w.heap.size,0+j,none⟩:=by unfold Addr.add;split;(·rename_i h;subst h;rfl);·simp
 rw[e1] at hc;exact hc
def dk(m n:Int):UInt8:=UInt8.ofNat (32*m+n).toNat
theorem fW(m n:Int)(A:Option Addr)(c:Nat)(w:World)(hm:m=0∨m=3)(h0:0≤n)(h1:n≤23)(hx:SA w ([]:List UInt8) A c):Calls Tryz.prog 298 #[.slice A 0 c,.agg #[.int .i64 m,.int .i64 n,.int .i64 0]] w (fun e w'=> ∃v,e=.returned v∧aC w' w.heap.size 5 v [dk m n]∧Below w.heap.size w w'):=by
 obtain⟨x,hx9⟩: ∃x,x=dk m n:=⟨_,rfl⟩;rw[←hx9];have hxn:(x.toNat:Int)=32*m+n:=by rw[hx9];unfold dk;rw[UInt8.toNat_ofNat_of_lt' (by show _<256;omega)];omega
 have hw1:IntKind.i64.wrap (32*m)=32*m:=by rw[IntKind.wrap_i64];omega
 have hw2:IntKind.i64.wrap (32*m+n)=(x.toNat:Int):=by rw[IntKind.wrap_i64];omega
 have hw3:IntKind.u8.wrap (x.toNat:Int)=(x.toNat:Int):=by rw[IntKind.wrap_u8];omega
 have E:=xQ (xP hx hm);clear hx hx9 hm hxn;have B0:=xQ (ab (ab (af w) (.cells #[.int .i64 m,.int .i64 n,.int .i64 0] 221)) (.cells #[] 5));have H0:=xQ ((ah.new w 221 #[.int .i64 m,.int .i64 n,.int .i64 0]).alloc (.cells #[] 5));go_enter Tryz.func298,Tryz.ntmps298;go_wp2_with(at_builtin;(refine az rfl _ _ 22 rfl rfl rfl (aK (P:=Tryz.prog) fc 22 _ (w.heap.size+1) 5 (.int .u8 0) 1 Tryz.underlying22 db rfl (by decide) _ [] [] A c (aC.cX _ _ _ _ (by simp) (by simp)) (E.out.1.below B0.out) (by simp) (by simp) (by simp)) ?_;rintro v1 w1 ⟨ho,hbl,_,_⟩;rw[List.nil_append] at ho;have HO1:=xQ (xP ho (B0.out.trans (hbl.mono (by simp))));have H1:=xQ (H0.out.aI hbl (by simp));obtain⟨g0,g1,g2⟩:=H1.out.c3;have hg:=H1.out.lt;clear ho hbl));refine(gH m n _ E.out.2 h0 h1).mono ?_;rintro e w2 ⟨rfl,hb⟩;have H2:=xQ (H1.out.below hb);have HO2:=xQ (xP (HO1.out.1.below hb) (al HO1.out.2 hb));clear hb g0 g1 g2 hg;obtain⟨g0,g1,g2⟩:=H2.out.c3;have hg:=H2.out.lt;go_wp2_with(at_builtin;(refine az rfl _ _ 22 rfl rfl rfl (aK (P:=Tryz.prog) fc 22 _ (w.heap.size+1) 5 (.int .u8 0) 1 Tryz.underlying22 db rfl (by decide) v1 [] [x] _ _ (HO2.out.1.below (ab (af w2) _)) (SA.v7 w2 _ x) (by simp) (by simp;unfold maxLen;omega) (by have:=HO2.out.2.size;simp;omega)) ?_;rintro v2 w3 ⟨ho,hbl,_,_⟩;rw[List.nil_append] at ho;have HO3:=xQ (xP ho ((al HO2.out.2 (ab (af w2) _)).trans (hbl.mono (by simp))));have H3:=xQ ((H2.out.alloc _).aI hbl (by simp));clear g0 g1 g2 hg;obtain⟨g0,g1,g2⟩:=H3.out.c3;have hg:=H3.out.lt;clear ho hbl));go_ret;exact⟨v2,rfl,HO3.out.1.mono (by omega),HO3.out.2⟩
theorem ki(xs ys:List UInt8)(A A':Option Addr)(c c':Nat)(w:World)(hx:SA w xs A c)(hy:SA w ys A' c'):Calls Tryz.prog 324 #[.slice A xs.length c,.slice A' ys.length c'] w (nc w (.bool (dB xs ys))):=by
 obtain⟨r,hr⟩: ∃r,r=dB xs ys:=⟨_,rfl⟩;rw[←hr];have R:=xQ hr;clear hr;have hl:xs.length≤9223372036854775807:=by have:=hx.len;unfold maxLen at this;omega
 have hl':ys.length≤9223372036854775807:=by have:=hy.len;unfold maxLen at this;omega
 have E:=xQ (xP hx hy);clear hx hy;go_enter Tryz.func324,Tryz.ntmps324;go_wp2_with fail;go_loopg[5] (min xs.length ys.length) (fun gk i wr=> ∃k:Nat,k≤xs.length∧k≤ys.length∧i=.int .i64 k∧gk=min xs.length ys.length-k∧Hid (r=dB (xs.drop k) (ys.drop k))∧ ∃n,wr=w.drewN n);case atStart=>exact⟨0,by omega,by omega,rfl,by omega,R.out,0,rfl⟩
 case round=>
  obtain⟨k,hk,hk',rfl,rfl,hT,nd,rfl⟩:=hrel;by_cases hlt:k<xs.length
  ·by_cases hlt':k<ys.length
   ·obtain⟨b,off,rfl,hb,k0⟩:=E.out.1.byte_at hlt;obtain⟨b',off',rfl,hb',k0'⟩:=E.out.2.byte_at hlt';have hi1:(k:Int)<xs.length:=by omega
    have hi2:(k:Int)<ys.length:=by omega
    have hi3:(0:Int)≤k:=by omega
    have hx8:=(xs[k]).toNat_lt;have hy8:=(ys[k]).toNat_lt;rcases Decidable.em (xs[k]=ys[k]) with hq|hq
    ·have hne:(((xs[k]).toNat:Int) != ((ys[k]).toNat:Int))=false:=by rw[hq];simp
     have HT2:Hid (r=dB (xs.drop (k+1)) (ys.drop (k+1))):=by show _=_;rw[hT.out];exact kx hlt hlt' hq
     have HQ:=xQ hq;clear hq;go_wp2_with fail;go_quiet(fail);go_wp2_with fail;go_roundg(min xs.length ys.length-(k+1));case measure=>omega
     case rel=>exact⟨k+1,by omega,by omega,by go_num,rfl,HT2.out,by first|exact⟨_,rfl⟩|exact lE _ _ _⟩
    ·have hnn:(xs[k]).toNat≠(ys[k]).toNat:=fun e=>hq (UInt8.toNat_inj.1 e);have hne:(((xs[k]).toNat:Int) != ((ys[k]).toNat:Int))=true:=by simp;omega
     have hr2:r=decide ((xs[k]).toNat<(ys[k]).toNat):=by rw[hT.out];unfold dB;rw[jX hlt hlt' hq];rfl
     have HQ:=xQ hq;clear hq hT hnn;by_cases h1:(xs[k]).toNat<(ys[k]).toNat
     ·have hr3:r=true:=by rw[hr2,decide_eq_true h1]
      subst hr3;have h1':((xs[k]).toNat:Int)<(ys[k]).toNat:=by omega
      clear hr2 R;go_wp2_with fail;go_quiet(fail);go_wp2_with fail;go_quiet(fail);go_wp2_with fail;go_ret;exact⟨by first|rfl|simp[h1],by first|exact⟨_,rfl⟩|exact lE _ _ _|(rw[World.drewN_drewN,World.drewN_drewN];exact⟨_,rfl⟩)⟩
     ·have hr3:r=false:=by rw[hr2,decide_eq_false h1]
      subst hr3;have h1': ¬((xs[k]).toNat:Int)<(ys[k]).toNat:=by omega
      clear hr2 R;go_wp2_with fail;go_quiet(fail);go_wp2_with fail;go_quiet(fail);go_wp2_with fail;go_ret;exact⟨by first|rfl|(show Ending.returned (.bool (decide (((xs[k]).toNat:Int)<(ys[k]).toNat)))=_;rw[decide_eq_false (by omega)]),by first|exact⟨_,rfl⟩|exact lE _ _ _|(rw[World.drewN_drewN,World.drewN_drewN];exact⟨_,rfl⟩)⟩
   ·have hi2: ¬(k:Int)<ys.length:=by omega
    have hi1:(k:Int)<xs.length:=by omega
    have hr2:r=decide (xs.length<ys.length):=by rw[hT.out];exact fu hk hk' (by omega)
    have hr3:r=false:=by rw[hr2,decide_eq_false (by omega)]
    subst hr3;have hi5: ¬(xs.length:Int)<ys.length:=by omega
    clear R hT hr2;go_wp2_with fail;go_ret;exact⟨rfl,by first|exact⟨_,rfl⟩|exact lE _ _ _⟩
  ·have hi1: ¬(k:Int)<xs.length:=by omega
   have hr2:r=decide (xs.length<ys.length):=by rw[hT.out];exact fu hk hk' (by omega)
   by_cases h5:xs.length<ys.length
   ·have hr3:r=true:=by rw[hr2,decide_eq_true h5]
    subst hr3;have hi5:(xs.length:Int)<ys.length:=by omega
    clear R hT hr2;go_wp2_with fail;go_ret;exact⟨rfl,by first|exact⟨_,rfl⟩|exact lE _ _ _⟩
   ·have hr3:r=false:=by rw[hr2,decide_eq_false h5]
    subst hr3;have hi5: ¬(xs.length:Int)<ys.length:=by omega
    clear R hT hr2;go_wp2_with fail;go_ret;exact⟨rfl,by first|exact⟨_,rfl⟩|exact lE _ _ _⟩
def ux(w:World)(l:List UInt8)(e:Ending)(w':World):Prop:= ∃v,e=.returned v∧aC w' w.heap.size 5 v l∧Below w.heap.size w w'
theorem SA.uu(w:World)(b off:Nat)(c:Nat)(hc:c≤maxLen):SA w ([]:List UInt8) (some ⟨b,off,none⟩) c:=⟨[],⟨by simp,hc,.inl ⟨rfl,rfl,by simp⟩⟩,by simp⟩
theorem km(v:aa)(A:Option Addr)(c:Nat)(w:World)(h:bL v):Calls Tryz.prog 263 #[.agg #[.int .i64 v.kind,.int .i64 v.n,.int .i64 v.x,.string v.s,.slice A v.l.length c]] w (ux w (fD v)):=by
 obtain⟨k,n,x,s,l⟩:=v;obtain⟨h2,h3,h4⟩:=h;simp only at h2 h3 h4;subst h2 h3;unfold fD;rcases h4 with⟨rfl,h0,h1,hs⟩|⟨rfl,hn,hs,_⟩
 ·simp only[show((3:Int)=7)=False by simp,if_false];have he:[UInt8.ofNat n.toNat]=[dk 0 n]:=by unfold dk;rw[show 32*0+n=n by omega]
  rw[he];clear he hs;have hd:decide (-1000000000000000≤n∧n≤1000000000000000)=true:=decide_eq_true (by omega);have HD:=xQ hd;clear hd;have B0:=xQ (ab (ab (af w) (.cells #[.int .i64 3,.int .i64 n,.int .i64 0,.string s,.slice A 0 c] 27)) (.cells #[] 5));go_enter Tryz.func263,Tryz.ntmps263;go_wp2_with fail;refine(aL n (-1000000000000000) 1000000000000000 _).mono ?_;rintro e w1 ⟨rfl,rfl⟩;rw[HD.out];go_wp2_with fail;refine(gb 0 n _ (.inl rfl) h0 (by omega)).mono ?_;rintro e w1 ⟨rfl,hb⟩;have HB1:=xQ (al B0.out hb);clear hb;go_wp2_with fail;refine(fW 0 n _ 0 w1 (.inl rfl) h0 (by omega) (SA.uu _ _ _ _ (by simp))).mono ?_;rintro e w2 ⟨v2,rfl,ho,hb⟩;have HB2:=xQ (xP ho (al HB1.out hb));clear hb ho;have hz:=HB1.out.size;go_wp2_with fail;go_ret;exact⟨v2,rfl,HB2.out.1.mono hz,HB2.out.2⟩
 ·subst hn;simp only[if_true];have hl:s.data.toList.length=s.size:=by rw[Array.length_toList];rfl
  have he:UInt8.ofNat (96+s.size)::s.data.toList=[dk 3 s.size]++s.data.toList:=by unfold dk;rw[show(32*3+(s.size:Int)).toNat=96+s.size by omega];rfl
  rw[he];clear he;have B0:=xQ (ab (ab (af w) (.cells #[.int .i64 7,.int .i64 0,.int .i64 0,.string s,.slice A 0 c] 27)) (.cells #[] 5));have V0:=xQ ((ah.new w 27 #[.int .i64 7,.int .i64 0,.int .i64 0,.string s,.slice A 0 c]).alloc (.cells #[] 5));go_enter Tryz.func263,Tryz.ntmps263;go_wp2_with fail;go_region_held3(fun u=>u.cell? ⟨w.heap.size,3,none⟩=some (.string s)) (go_keep) (first|(go_at_call 299;(refine(gb 3 s.size _ (.inr rfl) (by omega) (by omega)).mono ?_;rintro e w1 ⟨rfl,hb⟩;have V1:=xQ (show ah w1 w.heap.size 27 #[.int .i64 7,.int .i64 0,.int .i64 0,.string s,.slice A 0 c] from(by first|exact V0.out.below hb|exact V0.out.drew.below hb));have HB1:=xQ (show Below w.heap.size w w1 from(by first|exact al B0.out hb|exact al B0.out.drew hb));clear hb;obtain⟨p0,p1,p2,p3,p4⟩:=V1.out.c5;have hv1:=V1.out.lt;have hz:=HB1.out.size))|(go_at_call 298;(refine(fW 3 s.size _ 0 _ (.inr rfl) (by omega) (by omega) (SA.uu _ _ _ _ (by simp))).mono ?_;rintro e w2 ⟨v2,rfl,ho,hb⟩;have V2:=xQ (show ah w2 w.heap.size 27 #[.int .i64 7,.int .i64 0,.int .i64 0,.string s,.slice A 0 c] from(by first|exact V1.out.below hb|exact V1.out.drew.below hb));have HB2:=xQ (xP (show aC w2 w1.heap.size 5 v2 [dk 3 s.size] from ho) (show Below w.heap.size w w2 from(by first|exact al HB1.out hb|exact al HB1.out.drew hb)));have hz12:w1.heap.size≤w2.heap.size:=(by have:=hb.size;simpa using this);clear hb ho;obtain⟨q0,q1,q2,q3,q4⟩:=V2.out.c5;have hv2:=V2.out.lt;have hz2:=HB2.out.2.size))|((apply tW (s:=.tmp 75) (x:=.tmp 77) (t:=22) (t2:=9) (v:=v2) (u:=.string s);(try case hgd=>exact rfl);(try case ho=>exact rfl);(try case hs=>exact rfl);(try case hx=>exact rfl);(case hrun=>first|exact fF (P:=Tryz.prog) 22 9 _ w1.heap.size 5 Tryz.underlying22 Tryz.underlying9 db v2 _ s HB2.out.1 (by simp;omega) hz12|exact fF (P:=Tryz.prog) 22 9 _ w1.heap.size 5 Tryz.underlying22 Tryz.underlying9 db v2 _ s HB2.out.1.drew (by simp;omega) hz12);rintro v3 w3 ⟨ho,hbl⟩;have V3:=xQ (show ah w3 w.heap.size 27 #[.int .i64 7,.int .i64 0,.int .i64 0,.string s,.slice A 0 c] from(by first|exact V2.out.aI hbl hv1|exact V2.out.drew.aI hbl hv1));have HO3:=xQ (xP (ho.mono hz) (show Below w.heap.size w w3 from(by first|exact HB2.out.2.trans (hbl.mono hz)|exact HB2.out.2.drew.trans (hbl.mono hz))));obtain⟨r0,r1,r2,r3,r4⟩:=V3.out.c5;clear ho hbl)));all_goals go_wp2_with fail
  all_goals go_ret
  all_goals exact⟨v3,rfl,HO3.out.1,HO3.out.2⟩
theorem fL(a b:aa)(A A':Option Addr)(c c':Nat)(w:World)(ha:bL a)(hb:bL b):Calls Tryz.prog 284 #[.agg #[.int .i64 a.kind,.int .i64 a.n,.int .i64 a.x,.string a.s,.slice A a.l.length c],.agg #[.int .i64 b.kind,.int .i64 b.n,.int .i64 b.x,.string b.s,.slice A' b.l.length c']] w (cd w (.bool (dZ a b))):=by
 have HN:=xQ (xP ha hb);clear ha hb;obtain⟨r,hr⟩: ∃r,r=dZ a b:=⟨_,rfl⟩;rw[←hr];have HR:=xQ hr;clear hr;have B0:=xQ (ab (ab (af w) (.cells #[.int .i64 a.kind,.int .i64 a.n,.int .i64 a.x,.string a.s,.slice A a.l.length c] 27)) (.cells #[.int .i64 b.kind,.int .i64 b.n,.int .i64 b.x,.string b.s,.slice A' b.l.length c'] 27));have P0:=xQ ((ah.new w 27 #[.int .i64 a.kind,.int .i64 a.n,.int .i64 a.x,.string a.s,.slice A a.l.length c]).alloc (.cells #[.int .i64 b.kind,.int .i64 b.n,.int .i64 b.x,.string b.s,.slice A' b.l.length c'] 27));have P1:=xQ (ah.at (w:=w.alloc (.cells #[.int .i64 a.kind,.int .i64 a.n,.int .i64 a.x,.string a.s,.slice A a.l.length c] 27)) (g:=w.heap.size+1) (t:=27) (cs:=#[.int .i64 b.kind,.int .i64 b.n,.int .i64 b.x,.string b.s,.slice A' b.l.length c']) (by simp));go_enter Tryz.func284,Tryz.ntmps284;go_wp2_with fail;go_region_held3(fun u=>u.cell? ⟨w.heap.size,0,none⟩=some (.int .i64 a.kind)∧u.cell? ⟨w.heap.size,1,none⟩=some (.int .i64 a.n)∧u.cell? ⟨w.heap.size,2,none⟩=some (.int .i64 a.x)∧u.cell? ⟨w.heap.size,3,none⟩=some (.string a.s)∧u.cell? ⟨w.heap.size,4,none⟩=some (.slice A a.l.length c)∧u.cell? ⟨w.heap.size+1,0,none⟩=some (.int .i64 b.kind)∧u.cell? ⟨w.heap.size+1,1,none⟩=some (.int .i64 b.n)∧u.cell? ⟨w.heap.size+1,2,none⟩=some (.int .i64 b.x)∧u.cell? ⟨w.heap.size+1,3,none⟩=some (.string b.s)∧u.cell? ⟨w.heap.size+1,4,none⟩=some (.slice A' b.l.length c')) (go_keep) (first|(go_at_call 263;(have hfirst:=HB1.out;clear hfirst;refine(km b A' c' _ HN.out.2).mono ?_;rintro e w2 ⟨v2,rfl,ho,hb2⟩;obtain⟨A2,c2,rfl⟩:=ho.form;have R0:=xQ (show ah w2 w.heap.size 27 #[.int .i64 a.kind,.int .i64 a.n,.int .i64 a.x,.string a.s,.slice A a.l.length c] from(by first|exact Q0.out.below hb2|exact Q0.out.drew.below hb2));have R1:=xQ (show ah w2 (w.heap.size+1) 27 #[.int .i64 b.kind,.int .i64 b.n,.int .i64 b.x,.string b.s,.slice A' b.l.length c'] from(by first|exact Q1.out.below hb2|exact Q1.out.drew.below hb2));obtain⟨s0,s1,s2,s3,s4⟩:=R0.out.c5;obtain⟨t0,t1,t2,t3,t4⟩:=R1.out.c5;have hz1:=R1.out.lt;have HB2:=xQ (xP (show SA w2 (fD a) A1 c1 from(by first|exact HB1.out.1.below hb2|exact HB1.out.1.drew.below hb2)) (xP ho.sf.2.sa (show Below w.heap.size w w2 from(by first|exact al HB1.out.2 hb2|exact al HB1.out.2.drew hb2))));clear ho hb2))|(go_at_call 263;(refine(km a A c _ HN.out.1).mono ?_;rintro e w1 ⟨v1,rfl,ho,hb1⟩;obtain⟨A1,c1,rfl⟩:=ho.form;have Q0:=xQ (show ah w1 w.heap.size 27 #[.int .i64 a.kind,.int .i64 a.n,.int .i64 a.x,.string a.s,.slice A a.l.length c] from(by first|exact P0.out.below hb1|exact P0.out.drew.below hb1));have Q1:=xQ (show ah w1 (w.heap.size+1) 27 #[.int .i64 b.kind,.int .i64 b.n,.int .i64 b.x,.string b.s,.slice A' b.l.length c'] from(by first|exact P1.out.below hb1|exact P1.out.drew.below hb1));obtain⟨p0,p1,p2,p3,p4⟩:=Q0.out.c5;obtain⟨q0,q1,q2,q3,q4⟩:=Q1.out.c5;have hz0:=Q1.out.lt;have HB1:=xQ (xP ho.sf.2.sa (show Below w.heap.size w w1 from(by first|exact al B0.out hb1|exact al B0.out.drew hb1)));clear ho hb1))|(go_at_call 324;(refine(ki (fD a) (fD b) A1 A2 c1 c2 _ (by first|exact HB2.out.1|exact HB2.out.1.drew) (by first|exact HB2.out.2.1|exact HB2.out.2.1.drew)).mono ?_;rintro e w3 ⟨rfl,nq,rfl⟩;have HB3:=xQ (show True from trivial))));all_goals go_wp2_with fail;go_ret;exact⟨by rw[HR.out];rfl,by first|exact below_drewN HB2.out.2.2 _|exact below_drewN HB2.out.2.2.drew _⟩
end Go.Proofs.YtodpdjehjllhdaaGreatDoor
