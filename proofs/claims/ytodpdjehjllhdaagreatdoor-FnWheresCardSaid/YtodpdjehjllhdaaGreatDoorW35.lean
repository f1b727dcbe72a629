/- Part of a proof: contracts and plain laws. -/
import Derived.Test.YtodpdjehjllhdaaGreatDoorW34
set_option linter.unusedVariables false
set_option linter.unusedSimpArgs false
set_option maxRecDepth 100000
set_option maxHeartbeats 20000000
namespace Go.Proofs.YtodpdjehjllhdaaGreatDoor
open Go.RowKit
theorem fp(l:List ag)(A:Option Addr)(c:Nat)(w:World)(fn:Nat)(v:Value)(f:ag→Bool)(hl:SA w l A c)(hcf: ∀(a:Array Value)(w:World),(callFunc fn a).run Tryz.prog w=.ok (.enter fn a) w)(H: ∀i(hi:i<l.length)(A':Option Addr)(c':Nat)(w1:World),Below w.heap.size w w1→SA w1 l[i].p A' c'→Calls Tryz.prog fn #[.agg #[.int .i64 l[i].kind,.slice A' l[i].p.length c'],v] w1 (bW w1 (.bool (f l[i])))):Calls Tryz.prog 83 #[.slice A l.length c,.func (.func fn) #[] #[v]] w (bW w (.bool (l.any f))):=by
 have hr:=qP f l;have K:=AJ (kN l A c w fn v f hl hcf H);have D:=AJ (vr f l);clear hcf H hl;generalize l.any f=r at*;generalize idxOf f l=i at*;by_cases h:0≤i;all_goals go_enter Tryz.func83,Tryz.ntmps83;go_wp2_with fail;refine K.out.mono ?_;rintro e w1 ⟨rfl,hb1⟩;go_wp2_with fail;go_ret;exact⟨by rw[←D.out];simp[h],hb1⟩
theorem vJ(x:ag)(p:List GStep)(A A':Option Addr)(c c':Nat)(w:World)(q:Nat)(hq:w.cell? ⟨q,0,none⟩=some (.slice A' p.length c'))(hx:SA w x.p A c)(hp:SA w p A' c'):Calls Tryz.prog 84 #[.agg #[.int .i64 x.kind,.slice A x.p.length c],.pointer (some ⟨q,0,none⟩)] w (bW w (.bool (cn x.p p))):=by
 have b0:=ab (ae w) (.cells #[.int .i64 x.kind,.slice A x.p.length c] 62);have hlt:q<w.heap.size:=World.block_lt_of_cell? w _ hq;have E:=AJ (jL x.p p A A' c c' _ (hx.below b0) (hp.below b0));clear hx hp;go_enter Tryz.func84,Tryz.ntmps84;go_wp2_with fail;refine E.out.mono ?_;rintro e w1 ⟨rfl,nd,rfl⟩;go_wp2_with fail;go_ret;exact⟨rfl,below_drewN b0 nd⟩
theorem lB(l:List ag)(p:List GStep)(A A':Option Addr)(c c':Nat)(w:World)(hl:SA w l A c)(hp:SA w p A' c'):Calls Tryz.prog 25 #[.slice A l.length c,.slice A' p.length c'] w (bW w (.bool (kr l p))):=by
 have b0:=ab (ae w) (.cells #[.slice A' p.length c'] 38);have K:=AJ (fp l A c _ 84 (.pointer (some ⟨w.heap.size,0,none⟩)) (fun x=>cn x.p p) (hl.below b0) (fun a w=>by kernel_rfl) (fun i hi A1 c1 w1 hb hs=>vJ l[i] p A1 A' c1 c' w1 w.heap.size ((hb.cell (p:=⟨w.heap.size,0,none⟩) (by simp)).trans (by simp)) hs ((hp.below b0).below hb)));clear hl hp;unfold kr;go_enter Tryz.func25,Tryz.ntmps25;go_wp2_with fail;refine K.out.mono ?_;rintro e w1 ⟨rfl,hb1⟩;go_wp2_with fail;go_ret;exact⟨rfl,ak b0 hb1⟩
theorem kz(l:List ag)(p:List GStep)(A A':Option Addr)(c c':Nat)(w:World)(hl:SA w l A c)(hp:SA w p A' c'):Calls Tryz.prog 28 #[.slice A l.length c,.slice A' p.length c'] w (gQ w (.bool (fT l p))):=by
 unfold fT;obtain⟨f,hf⟩: ∃f:ag→Bool,f=fun x=>cn p x.p&&decide (x.p.length<p.length):=⟨_,rfl⟩;rw[←hf];obtain⟨r,hr⟩: ∃r,r=l.any f:=⟨_,rfl⟩;rw[←hr];have R:=AJ hr;clear hr;have hm:l.length≤9223372036854775807:=by have:=hl.len;unfold maxLen at this;omega
 have hm':p.length≤9223372036854775807:=by have:=hp.len;unfold maxLen at this;omega
 have E:=AJ (AH hl hp);clear hl hp;have F:=AJ hf;clear hf;go_enter Tryz.func28,Tryz.ntmps28;go_wp2_with fail;go_loopg[5] l.length (fun gk i wr=> ∃k:Nat,k≤l.length∧i=.int .i64 k∧gk=l.length-k∧Hid ((l.take k).any f=false)∧ ∃n,wr=w.drewN n);case atStart=>exact⟨0,by omega,rfl,by omega,rfl,0,rfl⟩
 case round=>
  obtain⟨k,hk,rfl,rfl,hT,nd,rfl⟩:=hrel;by_cases hlt:k<l.length
  ·obtain⟨b,off,A1,c1,rfl,hb,hI,hs,k0,k1⟩:=E.out.1.jC hlt;have HS:=AJ hs;have hm2:l[k].p.length≤9223372036854775807:=by have:=hs.len;unfold maxLen at this;omega
   clear hs;cases hB:cn p l[k].p
   ·have HB:=AJ (show f l[k]=false by rw[F.out];simp[hB]);have HB':=AJ hB;clear hB;go_wp2_with fail;refine(eZ p l[k].p A' A1 c' c1 _ (E.out.2.drewN _) (HS.out.drewN _)).mono ?_;rintro e w1 ⟨rfl,nq,rfl⟩;rw[HB'.out];go_wp2_with fail;go_roundg(l.length-(k+1));case measure=>omega
    case rel=>exact⟨k+1,by omega,by go_num,rfl,eS hlt hT.out HB.out,by first|exact⟨_,rfl⟩|exact iV _ _ _⟩
   ·by_cases hc:l[k].p.length<p.length;·have HB:=AJ (show f l[k]=true by rw[F.out];simp[hB,hc]);have HB':=AJ hB;clear hB;go_wp2_with fail;refine(eZ p l[k].p A' A1 c' c1 _ (E.out.2.drewN _) (HS.out.drewN _)).mono ?_;rintro e w1 ⟨rfl,nq,rfl⟩;rw[HB'.out];go_wp2_with fail;go_ret;exact⟨by rw[R.out,ob hlt HB.out];rfl,by first|exact⟨_,rfl⟩|exact iV _ _ _⟩
    ·have HB:=AJ (show f l[k]=false by rw[F.out];simp[hc]);have HB':=AJ hB;clear hB;have hc':decide (l[k].p.length<p.length)=false:=by simpa using hc
     go_wp2_with fail;refine(eZ p l[k].p A' A1 c' c1 _ (E.out.2.drewN _) (HS.out.drewN _)).mono ?_;rintro e w1 ⟨rfl,nq,rfl⟩;rw[HB'.out];go_wp2_with fail;go_roundg(l.length-(k+1));case measure=>omega
     case rel=>exact⟨k+1,by omega,by go_num,rfl,eS hlt hT.out HB.out,by first|exact⟨_,rfl⟩|exact iV _ _ _⟩
  ·have e:k=l.length:=by omega
   go_wp2_with fail;go_ret;exact⟨by rw[R.out,rV e hT.out];rfl,_,rfl⟩
theorem nY(x:ag)(p:List GStep)(A A':Option Addr)(c c':Nat)(w:World)(q:Nat)(hq:w.cell? ⟨q,0,none⟩=some (.slice A' p.length c'))(hx:SA w x.p A c)(hp:SA w p A' c'):Calls Tryz.prog 87 #[.agg #[.int .i64 x.kind,.slice A x.p.length c],.pointer (some ⟨q,0,none⟩)] w (bW w (.bool (cn p x.p&&decide (x.p.length<p.length)))):=by
 have b0:=ab (ae w) (.cells #[.int .i64 x.kind,.slice A x.p.length c] 62);have hlt:q<w.heap.size:=World.block_lt_of_cell? w _ hq;have hm:x.p.length≤9223372036854775807:=by have:=hx.len;unfold maxLen at this;omega
 have hm':p.length≤9223372036854775807:=by have:=hp.len;unfold maxLen at this;omega
 have E:=AJ (jL p x.p A' A c' c _ (hp.below b0) (hx.below b0));clear hx hp;by_cases hc:x.p.length<p.length;·obtain⟨r,hr⟩: ∃r,r=(cn p x.p&&decide (x.p.length<p.length)):=⟨_,rfl⟩;rw[←hr];have R:=AJ (hr.trans (show _=cn p x.p by simp[hc]));clear hr;go_enter Tryz.func87,Tryz.ntmps87;go_wp2_with fail;refine E.out.mono ?_;rintro e w1 ⟨rfl,nd,rfl⟩;go_wp2_with fail;go_ret;exact⟨by rw[R.out];rfl,below_drewN b0 nd⟩
 ·obtain⟨r,hr⟩: ∃r,r=(cn p x.p&&decide (x.p.length<p.length)):=⟨_,rfl⟩;rw[←hr];have R:=AJ (hr.trans (show _=false by simp[hc]));clear hr;have hc':decide (x.p.length<p.length)=false:=by simpa using hc
  go_enter Tryz.func87,Tryz.ntmps87;go_wp2_with fail;go_ret;exact⟨by rw[R.out];rfl,b0⟩
theorem lA(l:List ag)(p:List GStep)(A A':Option Addr)(c c':Nat)(w:World)(hl:SA w l A c)(hp:SA w p A' c'):Calls Tryz.prog 27 #[.slice A l.length c,.slice A' p.length c'] w (bW w (.bool (fT l p))):=by
 have b0:=ab (ae w) (.cells #[.slice A' p.length c'] 38);have K:=AJ (fp l A c _ 87 (.pointer (some ⟨w.heap.size,0,none⟩)) (fun x=>cn p x.p&&decide (x.p.length<p.length)) (hl.below b0) (fun a w=>by kernel_rfl) (fun i hi A1 c1 w1 hb hs=>nY l[i] p A1 A' c1 c' w1 w.heap.size ((hb.cell (p:=⟨w.heap.size,0,none⟩) (by simp)).trans (by simp)) hs ((hp.below b0).below hb)));clear hl hp;unfold fT;go_enter Tryz.func27,Tryz.ntmps27;go_wp2_with fail;refine K.out.mono ?_;rintro e w1 ⟨rfl,hb1⟩;go_wp2_with fail;go_ret;exact⟨rfl,ak b0 hb1⟩
mutual
def countG : aa → Nat
  | ⟨_, _, _, _, l⟩ => 1 + countL l
def countL : List aa → Nat
  | [] => 0
  | a :: l => countG a + countL l
end
mutual
theorem paths_count : ∀ (v : aa) (p : List GStep), (pathsG p v).length = countG v
  | ⟨k, n, x, s, l⟩, p => by rw [pathsG, countG, List.length_cons, pathsL_count l]; omega
theorem pathsL_count : ∀ (l : List aa) (p : List GStep) (v : aa) (i : Nat), (pathsL p v i l).length = countL l
  | [], _, _, _ => by simp [pathsL, countL]
  | a :: l, p, v, i => by rw [pathsL, countL, List.length_append, paths_count a, pathsL_count l]
end
theorem tM{l:List ag}{p:List GStep}(h:uJ l p=false): ∀L∈l,¬p <+: L.p:=by
 intro L hL hp;unfold uJ at h;rw[List.any_eq_false] at h;exact h L hL (List.isPrefixOf_iff_prefix.2 hp)
theorem xF(l:List ag)(p:List GStep):kr l p=uJ l p:=by
 unfold kr uJ;congr 1;funext x;unfold cn;rw[Bool.eq_iff_iff,List.isPrefixOf_iff_prefix,List.prefix_iff_eq_take];simp only[Bool.and_eq_true,decide_eq_true_eq];constructor;·exact fun h=>h.2.symm
 ·intro h;have:=congrArg List.length h;rw[List.length_take] at this;exact⟨by omega,h.symm⟩
theorem iO(v:aa)(p:List GStep)(A Ap:Option Addr)(c cp:Nat)(w:World)(hn:bulkVal v≤1048576)(hv:bq v)(hx:SA w v.l A c)(hp:SA w p Ap cp):Calls Tryz.prog 31 #[.agg #[.int .i64 v.kind,.int .i64 v.n,.int .i64 v.x,.string v.s,.slice A v.l.length c],.slice Ap p.length cp] w (zm w (iC v p)):=by
 obtain⟨o,ho⟩: ∃o,o=iC v p:=⟨_,rfl⟩;rw[←ho];have O:=AJ ho;clear ho;have hlp:p.length≤9223372036854775807:=by have:=hp.len;unfold maxLen at this;omega
 have b0:=AJ (ab (ab (ae w) (.cells #[.int .i64 v.kind,.int .i64 v.n,.int .i64 v.x,.string v.s,.slice A v.l.length c] 27)) (.cells #[.int .i64 0,.int .i64 0,.int .i64 0,.string .empty,.slice none 0 0] 27));have E:=AJ (AH hx hp);clear hx hp;have HI:=AJ hv;clear hv;go_enter Tryz.func31,Tryz.ntmps31;go_wp2_with fail;go_loopg[11] p.length (fun gk i wr=> ∃(k:Nat) (x:aa) (Ax:Option Addr) (cx:Nat),k≤p.length∧i=.int .i64 k∧gk=p.length-k∧Hid (iC v (p.take k)=some x)∧bq x∧ai wr w.heap.size 27 #[.int .i64 x.kind,.int .i64 x.n,.int .i64 x.x,.string x.s,.slice Ax x.l.length cx]∧ai wr (w.heap.size+1) 27 #[.int .i64 0,.int .i64 0,.int .i64 0,.string .empty,.slice none 0 0]∧SS wr (fun b=>b<w.heap.size) x.l Ax cx∧Below w.heap.size w wr);case atStart=>exact⟨0,v,A,c,by omega,rfl,by omega,rfl,HI.out,(ai.at rfl).alloc _,ai.at (by simp),SS.al E.out.1 (fun b h=>b0.out.block b h) (fun b h=>h),b0.out⟩
 case round=>
  obtain⟨k,x,Ax,cx,hk,rfl,rfl,hat,hvi,hP0,hP1,hsx,hbel⟩:=hrel;have HB0:=AJ (show bulkVal x≤1048576 from Nat.le_trans (q8 _ hat.out) hn);have hz0:w.heap.size<wr.heap.size:=hP0.lt;have hz1:w.heap.size+1<wr.heap.size:=hP1.lt;by_cases hlt:k<p.length
  ·obtain⟨b,off,rfl,hb,hI,k0,k1⟩:=(E.out.2.below hbel).df hlt;obtain⟨p0,p1,p2,p3,p4⟩:=hP0.c5;go_wp2_with fail;refine(pW x p[k] Ax cx _ (Nat.le_trans (fk x) HB0.out) hI).mono ?_;rintro e w2 ⟨rfl,hb2⟩;have R0:=(hP0.alloc (.cells #[.int .i64 p[k].at_,.bool p[k].name] 86)).below hb2;have R1:=(hP1.alloc (.cells #[.int .i64 p[k].at_,.bool p[k].name] 86)).below hb2;have B2:=AJ (ak (ab (ae wr) _) hb2);have hz2:w.heap.size+1<w2.heap.size:=R1.lt;have hz2':w.heap.size<w2.heap.size:=R0.lt;clear hb2 p0 p1 p2 p3 p4 k0 k1 hP0 hP1;rcases eI x p[k] with hpl|⟨i,hpl,hi⟩
   ·have hst:=fL hpl;rw[hpl];have hO:o=none:=by rw[O.out,←List.take_append_drop (k+1) p];exact jO _ _ _ (by rw[List.take_succ_eq_append_getElem hlt,nP,hat.out];simpa using hst)
    have O':=AJ hO;clear hO;obtain⟨r0,r1,r2,r3,r4⟩:=R1.c5;obtain⟨f0,f1,f2,f3,f4⟩:=R1.f5;clear R0 R1;go_wp2_with fail;refine bodyPost_ret (v:=wV (zv none) none 0 false) (by simp[results,wV,zv,Tryz.results31,go_sem, *]<;>rfl) rfl ?_;rw[O'.out];refine⟨none,0,rfl,AE _ _,zN,?_⟩;refine Below.setCell (Below.setCell (Below.setCell (Below.setCell (Below.setCell (ak hbel B2.out) ?_ _) ?_ _) ?_ _) ?_ _) ?_ _;all_goals(simp;try omega)
   ·have hst:=AJ (cR hpl hi);rw[hpl];have hs2:=SS.al hsx (S':=fun b=>b<w.heap.size) (fun b h=>B2.out.block b (by omega)) (fun b h=>h);have HS2:=AJ hs2;have hs2':SA w2 x.l Ax cx:=SS.al hs2 (fun b h=>rfl) (fun b h=>by omega);obtain⟨r0,r1,r2,r3,r4⟩:=R0.c5;obtain⟨f0,f1,f2,f3,f4⟩:=R0.f5;obtain⟨F,⟨hl1,hl2,hl3⟩,hF⟩:=hs2;rcases hl3 with⟨he,_⟩|⟨b1,off1,F',xs,rfl,rfl,hel,hcs⟩;·rw[he] at hi;simp at hi
    ·obtain⟨F1,cs,hr,hsub,hxs⟩:=hel.get i hi;obtain⟨A3,c3,rfl,hI3,hs3⟩:=cZ.1 hr;have hcs':=hcs.sub hxs;obtain⟨k0,k1,k2,k3,k4⟩:=AH hcs'.c0 (AH hcs'.c1 (AH hcs'.c2 (AH hcs'.c3 hcs'.c4)));have hbb:b1<w.heap.size:=hF b1 (List.mem_cons_self ..);have HS3:=AJ (show SS w2 (fun b=>b<w.heap.size) x.l[i].l A3 c3 from⟨F1,hs3,fun b hb=>hF b (List.mem_cons_of_mem _ (hsub b hb))⟩);have n1:b1≠w.heap.size:=by omega
     have n1':w.heap.size≠b1:=by omega
     clear hel hcs hcs' hr hxs hsub hs3 hF hs2' hsx;simp only[aD.wd] at k0 k1 k2 k3 k4;go_wp2_with fail;go_roundg(p.length-(k+1));case measure=>omega
     case rel=>
      refine⟨k+1,x.l[i],A3,c3,by omega,by go_num,rfl,?_,hI3,?_,?_,?_,?_⟩;·exact(show iC v (p.take (k+1))=some x.l[i] by rw[List.take_succ_eq_append_getElem hlt,nP,hat.out];simpa using hst.out)
      ·exact((((R0.cF 0 _).cF 1 _).cF 2 _).cF 3 _).cF 4 _
      ·exact((((R1.nr (by simp<;>omega) _).nr (by simp<;>omega) _).nr (by simp<;>omega) _).nr (by simp<;>omega) _).nr (by simp<;>omega) _
      ·refine SS.al HS3.out (fun b hb=> ?_) (fun b h=>h);rw[Below.heap_setCell _ _ _ _ (by simp;omega),Below.heap_setCell _ _ _ _ (by simp;omega),Below.heap_setCell _ _ _ _ (by simp;omega),Below.heap_setCell _ _ _ _ (by simp;omega),Below.heap_setCell _ _ _ _ (by simp;omega)]
      ·refine Below.setCell (Below.setCell (Below.setCell (Below.setCell (Below.setCell (ak hbel B2.out) ?_ _) ?_ _) ?_ _) ?_ _) ?_ _;all_goals(simp;try omega)
  ·have e:k=p.length:=by omega
   subst e;have hO:o=some x:=by rw[O.out,←hat.out,List.take_length]
   have O':=AJ hO;clear hO;have hsa:SA wr x.l Ax cx:=SS.al hsx (fun b h=>rfl) (fun b h=>by omega);have HV:=AJ (AH hvi hbel);obtain⟨p0,p1,p2,p3,p4⟩:=hP0.c5;go_wp2_with fail;refine(jf x Ax cx _ HB0.out hvi hsa).mono ?_;rintro e w2 ⟨A2,c2,rfl,hsf,hb2⟩;have R1:=hP1.below hb2;obtain⟨r0,r1,r2,r3,r4⟩:=R1.c5;have hz2:w.heap.size+1<w2.heap.size:=R1.lt;obtain⟨f0,f1,f2,f3,f4⟩:=R1.f5;have HS:=AJ (AH hsf (ak hbel hb2));clear hsf hb2 hsx hvi hbel hsa;go_wp2_with fail;refine bodyPost_ret (v:=wV (zv (some x)) A2 c2 true) (by simp[results,wV,zv,Tryz.results31,go_sem, *]<;>rfl) rfl ?_;rw[O'.out];refine⟨A2,c2,rfl,?_,HV.out.1,?_⟩;·refine SF.mono (base:=wr.heap.size) ?_ (by omega);refine SF.set (SF.set (SF.set (SF.set (SF.set HS.out.1 ?_ _) ?_ _) ?_ _) ?_ _) ?_ _;all_goals(simp;try omega)
   ·refine Below.setCell (Below.setCell (Below.setCell (Below.setCell (Below.setCell HS.out.2 ?_ _) ?_ _) ?_ _) ?_ _) ?_ _;all_goals(simp;try omega)
def wD(v:aa):Prop:= ∀(u:aa)(A A':Option Addr)(c c':Nat)(w:World),SA w v.l A c→SA w u.l A' c'→Calls Tryz.prog 12 #[.agg #[.int .i64 v.kind,.int .i64 v.n,.int .i64 v.x,.string v.s,.slice A v.l.length c],.agg #[.int .i64 u.kind,.int .i64 u.n,.int .i64 u.x,.string u.s,.slice A' u.l.length c']] w (bW w (.bool (decide (v=u))))
theorem tf(v:aa):wD v:=by
 refine aa.ind (p:=wD) (fun v IH=> ?_) v;intro u A A' c c' w hx hy;have hl:v.l.length≤9223372036854775807:=by have:=hx.len;unfold maxLen at this;omega
 have hl':u.l.length≤9223372036854775807:=by have:=hy.len;unfold maxLen at this;omega
 obtain⟨r,hr⟩: ∃r,r=decide (v=u):=⟨_,rfl⟩;rw[←hr];have HR:=AJ hr;clear hr;obtain⟨k,n,x,s,l⟩:=v;obtain⟨k',n',x',s',l'⟩:=u;simp only at hx hy hl hl' IH;have IH':=AJ IH;clear IH;have E:=AJ (AH hx hy);clear hx hy;have B0:=AJ (ab (ab (ae w) (.cells #[.int .i64 k,.int .i64 n,.int .i64 x,.string s,.slice A l.length c] 27)) (.cells #[.int .i64 k',.int .i64 n',.int .i64 x',.string s',.slice A' l'.length c'] 27));have P0:=AJ ((ai.new w 27 #[.int .i64 k,.int .i64 n,.int .i64 x,.string s,.slice A l.length c]).alloc (.cells #[.int .i64 k',.int .i64 n',.int .i64 x',.string s',.slice A' l'.length c'] 27));have P1:=AJ (ai.at (w:=w.alloc (.cells #[.int .i64 k,.int .i64 n,.int .i64 x,.string s,.slice A l.length c] 27)) (g:=w.heap.size+1) (t:=27) (cs:=#[.int .i64 k',.int .i64 n',.int .i64 x',.string s',.slice A' l'.length c']) (by simp));by_cases h1:k=k'
 ·subst h1;by_cases h2:n=n'
  ·subst h2;by_cases h3:x=x'
   ·subst h3;by_cases h4:s=s'
    ·subst h4;have hs1:=nJ s;by_cases h5:l.length=l'.length
     ·have h5':((l.length:Int) != l'.length)=false:=by simp[h5]
      have H5:=AJ h5;clear h5;go_enter Tryz.func12,Tryz.ntmps12;go_wp2_with fail;go_loopg[5] l.length (fun gk i wr=> ∃(j:Nat),j≤l.length∧i=.int .i64 j∧gk=l.length-j∧Hid (l.take j=l'.take j)∧ai wr w.heap.size 27 #[.int .i64 k,.int .i64 n,.int .i64 x,.string s,.slice A l.length c]∧ai wr (w.heap.size+1) 27 #[.int .i64 k,.int .i64 n,.int .i64 x,.string s,.slice A' l'.length c']∧Below w.heap.size w wr);case atStart=>exact⟨0,by omega,rfl,by omega,rfl,P0.out,P1.out,B0.out⟩
      case round=>
       obtain⟨j,hj,rfl,rfl,hT,hP0,hP1,hbel⟩:=hrel;by_cases hlt:j<l.length
       ·have hlt':j<l'.length:=H5.out▸hlt;obtain⟨b,off,A1,c1,rfl,hb,hI,hs,k0,k1,k2,k3,k4⟩:=(E.out.1.below hbel).bI hlt;obtain⟨b',off',A2,c2,rfl,hb',hI',hs',q0,q1,q2,q3,q4⟩:=(E.out.2.below hbel).bI hlt';have hz0:=hP0.lt;have hz1:=hP1.lt;obtain⟨p0,p1,p2,p3,p4⟩:=hP0.c5;obtain⟨r0,r1,r2,r3,r4⟩:=hP1.c5;have hi1:(j:Int)<l.length:=by omega
        have hi2:(j:Int)<l'.length:=by omega
        have hi3:(0:Int)≤j:=by omega
        have HS:=AJ (AH hs hs');clear hs hs' hI hI';rcases Decidable.em (l[j]=l'[j]) with hq|hq
        ·have HQ:=AJ hq;clear hq;go_wp2_with fail;go_still_tail 10,(by kernel_rfl);change wpList _ _ _ _ _ wr.drew;go_wp2_with fail;refine(IH'.out j hlt l'[j] A1 A2 c1 c2 _ HS.out.1.drew HS.out.2.drew).mono ?_;rintro e w1 ⟨rfl,hb1⟩;rw[decide_eq_true HQ.out];have HB:=AJ hb1;clear hb1;go_wp2_with fail;go_roundg(l.length-(j+1));case measure=>omega
         case rel=>exact⟨j+1,by omega,by go_num,rfl,gu hlt hlt' hT.out HQ.out,hP0.drew.below HB.out,hP1.drew.below HB.out,ak hbel.drew HB.out⟩
        ·have HQ:=AJ hq;clear hq;have hr0:r=false:=by rw[HR.out];simp only[decide_eq_false_iff_not];intro e;injection e with _ _ _ _ e;subst e;exact HQ.out rfl
         subst hr0;go_wp2_with fail;go_still_tail 10,(by kernel_rfl);change wpList _ _ _ _ _ wr.drew;go_wp2_with fail;refine(IH'.out j hlt l'[j] A1 A2 c1 c2 _ HS.out.1.drew HS.out.2.drew).mono ?_;rintro e w1 ⟨rfl,hb1⟩;rw[decide_eq_false HQ.out];have HB:=AJ hb1;clear hb1;go_wp2_with fail;go_ret;exact⟨rfl,ak hbel.drew HB.out⟩
       ·have e:j=l.length:=by omega
        have hr0:r=true:=by have h:=hT.out;rw[e,List.take_length,H5.out,List.take_length] at h;rw[HR.out,h];simp
        subst hr0;obtain⟨p0,p1,p2,p3,p4⟩:=hP0.c5;have hz0:=hP0.lt;have HB:=AJ hbel;clear hbel hP0 hP1 hT;go_wp2_with fail;go_ret;exact⟨rfl,HB.out⟩
     ·have h5':((l.length:Int) != l'.length)=true:=by simp;omega
      have hr0:r=false:=by rw[HR.out];simp only[decide_eq_false_iff_not];intro e;injection e with _ _ _ _ e;exact h5 (by rw[e])
      subst hr0;clear h5;go_enter Tryz.func12,Tryz.ntmps12;go_wp2_with fail;go_ret;exact⟨rfl,B0.out⟩
    ·have h4':=lY h4;have hr0:r=false:=by rw[HR.out];simp only[decide_eq_false_iff_not];intro e;injection e with _ _ _ e _;exact h4 e
     subst hr0;clear h4;go_enter Tryz.func12,Tryz.ntmps12;go_wp2_with fail;go_ret;exact⟨rfl,B0.out⟩
   ·have h3':(x != x')=true:=by simpa using h3
    have hr0:r=false:=by rw[HR.out];simp only[decide_eq_false_iff_not];intro e;injection e with _ _ e _ _;exact h3 e
    subst hr0;clear h3;go_enter Tryz.func12,Tryz.ntmps12;go_wp2_with fail;go_ret;exact⟨rfl,B0.out⟩
  ·have h2':(n != n')=true:=by simpa using h2
   have hr0:r=false:=by rw[HR.out];simp only[decide_eq_false_iff_not];intro e;injection e with _ e _ _ _;exact h2 e
   subst hr0;clear h2;go_enter Tryz.func12,Tryz.ntmps12;go_wp2_with fail;go_ret;exact⟨rfl,B0.out⟩
 ·have h1':(k != k')=true:=by simpa using h1
  have hr0:r=false:=by rw[HR.out];simp only[decide_eq_false_iff_not];intro e;injection e with e _ _ _ _;exact h1 e
  subst hr0;clear h1;go_enter Tryz.func12,Tryz.ntmps12;go_wp2_with fail;go_ret;exact⟨rfl,B0.out⟩
theorem uM(code:List UInt8)(A:Option Addr)(c:Nat)(w:World):Calls Tryz.prog 8 #[.slice A code.length c] w (bW w (.bool (decide (1048576<code.length)))):=by
 by_cases h:1048576<code.length
 ·have h':(1048576:Int)<code.length:=by omega
  rw[decide_eq_true h];go_enter Tryz.func8,Tryz.ntmps8;go_wp2_with fail;go_ret;exact⟨rfl,ae w⟩
 ·have h': ¬((1048576:Int)<code.length):=by omega
  rw[decide_eq_false h];go_enter Tryz.func8,Tryz.ntmps8;go_wp2_with fail;go_ret;exact⟨rfl,ae w⟩
def wk(v:aa):Prop:=valOkP v=true∧jG v
theorem wk.at{v:aa}(h:wk v){i:Nat}(hi:i<v.l.length):wk v.l[i]:=by
 have hk:=bB (aQ h.1).2 hi;have hb:=gi hi;have hb2:=h.2.2.2.2.2;have hp:=fc (List.getElem_mem hi);have hp2:=h.2.2.2.2.1;rw[aR] at hp2;have hd:=dB (v:=v) (List.getElem_mem hi);have hd2:=h.2.2.2.1;have hs:=av v.l[i];exact⟨hk,dN hk (by unfold maxLen;omega),h.2.2.1.sub.at (List.getElem_mem hi),by omega,by omega,by omega⟩
theorem sd{way:Int}{v:aa}(h:valOkP v=true∧1≤way∧way≤4)(L:ag):L∈(cK way v).2↔L∈(projP way v []).2:=by
 unfold cK;rw[if_pos h];exact(bD ao (projP way v []).2 []).mem_iff.trans (by simp)
theorem ni(xs ys:List GStep)(A A':Option Addr)(c c':Nat)(w:World)(hx:SA w xs A c)(hy:SA w ys A' c'):Calls Tryz.prog 24 #[.slice A xs.length c,.slice A' ys.length c'] w (gQ w (.bool (decide (xs=ys)))):=by
 obtain⟨r,hr⟩: ∃r,r=decide (xs=ys):=⟨_,rfl⟩;rw[←hr];have R:=AJ hr;clear hr;have hl:xs.length≤9223372036854775807:=by have:=hx.len;unfold maxLen at this;omega
 have hl':ys.length≤9223372036854775807:=by have:=hy.len;unfold maxLen at this;omega
 have E:=AJ (AH hx hy);clear hx hy;by_cases he:xs.length=ys.length
 ·have he':((xs.length:Int) != ys.length)=false:=by simp[he]
  have HE:=AJ he;clear he;go_enter Tryz.func24,Tryz.ntmps24;go_wp2_with fail;go_loopg[5] xs.length (fun gk i wr=> ∃k:Nat,k≤xs.length∧i=.int .i64 k∧gk=xs.length-k∧Hid (xs.take k=ys.take k)∧ ∃n,wr=w.drewN n);case atStart=>exact⟨0,by omega,rfl,by omega,rfl,0,rfl⟩
  case round=>
   obtain⟨k,hk,rfl,rfl,hT,nd,rfl⟩:=hrel;by_cases hlt:k<xs.length
   ·obtain⟨b,off,rfl,hb,hI,k0,k1⟩:=E.out.1.df hlt;have hlt':k<ys.length:=HE.out▸hlt;obtain⟨b',off',rfl,hb',hI',k0',k1'⟩:=E.out.2.df hlt';have hi1:(k:Int)<xs.length:=by omega
    have hi2:(k:Int)<ys.length:=by omega
    have hi3:(0:Int)≤k:=by omega
    rcases Decidable.em (xs[k]=ys[k]) with hq|hq
    ·have hne:=dv (x:=xs[k]) (y:=ys[k]) hq;have HQ:=AJ hq;clear hq;go_wp2_with fail;go_quiet(fail);go_wp2_with fail;go_roundg(xs.length-(k+1));case measure=>omega
     case rel=>exact⟨k+1,by omega,by go_num,rfl,gW hlt hlt' hT.out HQ.out,by first|exact⟨_,rfl⟩|exact iV _ _ _⟩
    ·have hne:=cY (x:=xs[k]) (y:=ys[k]) hq;have HQ:=AJ hq;clear hq;go_wp2_with fail;go_quiet(fail);go_wp2_with fail;go_ret;exact⟨by rw[R.out,decide_eq_false (fun h=>HQ.out (by subst h;rfl))];rfl,by first|exact⟨_,rfl⟩|exact iV _ _ _⟩
   ·have e:k=xs.length:=by omega
    go_wp2_with fail;go_ret;exact⟨by rw[R.out,decide_eq_true (ja e HE.out hT.out)];rfl,_,rfl⟩
 ·have he':((xs.length:Int) != ys.length)=true:=by simp;omega
  go_enter Tryz.func24,Tryz.ntmps24;go_wp2_with fail;go_ret;exact⟨by rw[R.out,decide_eq_false (fun h=>he (by rw[h]))];rfl,0,rfl⟩
structure ku where
  p : List GStep
theorem c7.xq{α:Type}[aD α]{w w':World}{base base':Nat}{t:TypeId}{v:Value}{l:List α}(h:c7 w base t v l [])(hb: ∀g,v.ownBlock=some g→base'≤g)(hk: ∀b,v.ownBlock=some b→w'.heap[b]? =w.heap[b]?):c7 w' base' t v l []:=by
 obtain⟨xs,⟨h1,h2⟩,h3,h4⟩:=h;refine⟨xs,⟨h1,?_⟩,h3.al (by simp),h4⟩;rcases h2 with h2|⟨g,cap,cur,rfl,hb',hh,h5⟩;·exact .inl h2
 ·exact .inr ⟨g,cap,cur,rfl,hb g rfl,(hk g rfl).trans hh,h5⟩
instance : aD ku where
  wd := 1
  rp := fun w F o cs => ∃ A c, cs = [.slice A o.p.length c] ∧ F = (Value.slice A o.p.length c).ownBlock.toList ∧ c7 w 0 86 (.slice A o.p.length c) o.p []
  len := by rintro _ _ _ _ ⟨_, _, rfl, _⟩; rfl
  one := by rintro _ _ _ _ ⟨_, _, rfl, _⟩ u hu; simp at hu; subst hu; rfl
  al := by
    rintro w w' F o cs ⟨A, c, rfl, rfl, h⟩ hk
    exact ⟨A, c, rfl, rfl, h.xq (fun _ _ => Nat.zero_le _) fun b hb => hk b (by rw [hb]; simp)⟩
theorem aL.yA{w:World}: ∀{l:List GStep}{F:List Nat}{xs:List Value},aL w l F xs→F=[]|[],_,_,h=>h.1|_::_,_,_,⟨F1,F2,_,_,hF,_,hr,he⟩=>by rw[hF,hr.1,he.yA];rfl
theorem RF.zx{base:Nat}{w:World}{p:List GStep}{A:Option Addr}{n c:Nat}(h:ay w base 86 (.slice A n c) p):RF base w (⟨p⟩:ku) [.slice A n c]:=by
 obtain⟨F,h1,h2⟩:=h;obtain⟨A',c',e⟩:=h1.form;injection e with e1 e2 e3;subst e2;have hF:F=[]:=by obtain⟨xs,_,h4,_⟩:=h1;exact h4.yA
 subst hF;have hlt:=h1.an;have h1':=h1;obtain⟨xs,⟨_,h3⟩,_⟩:=h1';refine⟨_,⟨A,c,rfl,rfl,h1.xq (fun _ _=>Nat.zero_le _) fun _ _=>rfl⟩,?_⟩;rcases h3 with⟨h3,_⟩|⟨g,cap,cur,hv,hb,hh,_⟩;·rw[h3];exact bL.nil _ _
 ·rw[hv];exact⟨by simp[Value.ownBlock],fun b hb'=>by simp[Value.ownBlock] at hb';subst hb';exact⟨hb,_,_,hh⟩⟩
def gR(p:List GStep)(v:aa):List ku:=(pathsG p v).map ku.mk
def ir(p:List GStep)(v:aa)(k:Nat):List ku:=(cz p v k).map ku.mk
theorem ue(p:List GStep)(v:aa):ir p v 0=[⟨p⟩]:=by
 unfold ir;rw[fB];rfl
theorem oN(p:List GStep)(v:aa){k:Nat}(h:k<v.l.length):ir p v (k+1)=ir p v k++gR (p++[aO v k]) v.l[k]:=by
 unfold ir gR;rw[eD p v h,List.map_append]
theorem vf(p:List GStep)(v:aa):ir p v v.l.length=gR p v:=by
 unfold ir gR;rw[fZ]
theorem iY(v:aa)(p:List GStep):(gR p v).length≤1+bulkVal v:=by
 unfold gR;rw[List.length_map];exact pathsG_len v p
theorem jz(p:List GStep)(v:aa)(k:Nat):(ir p v k).length≤1+bulkVal v:=by
 unfold ir;rw[List.length_map];exact fm p v k
theorem xI(v:aa)(p:List GStep):0<(gR p v).length:=by
 unfold gR;rw[List.length_map,pT];simp
theorem vI(v:aa)(p:List GStep){i:Nat}(hi:i<(gR p v).length):(gR p v)[i].p.length≤p.length+bulkVal v:=by
 unfold gR at hi ⊢;rw[List.getElem_map];exact pathsG_deep v p _ (List.getElem_mem _)
theorem SF.wJ{base:Nat}{w:World}{l:List ku}{A:Option Addr}{c:Nat}(h:SF base w l A c){i:Nat}(hi:i<l.length): ∃b off A' c',A=some ⟨b,off,none⟩∧b<w.heap.size∧ay w base 86 (.slice A' l[i].p.length c') l[i].p∧w.cell? ⟨b,off+i,none⟩=some (.slice A' l[i].p.length c'):=by
 obtain⟨F,⟨_,_,h3⟩,hF⟩:=h;rcases h3 with⟨rfl,_⟩|⟨b,off,F',xs,hA,rfl,he,hc⟩;·simp at hi
 ·obtain⟨F1,cs,⟨A',c',rfl,rfl,hs⟩,hsub,hx⟩:=he.get i hi;have h0:=(hc.sub hx).c0;refine⟨b,off,A',c',hA,(hF.2 b (List.mem_cons_self ..)).2.lt,⟨[],hs.xq (fun g hg=> ?_) (fun _ _=>rfl),bL.nil _ _⟩,by simpa[aD.wd] using h0⟩;exact(hF.2 g (List.mem_cons_of_mem _ (hsub g (by rw[hg];simp)))).1
def wO(v:aa):Prop:= ∀(p:List GStep)(A Ap:Option Addr)(c cp:Nat)(w:World),bulkVal v≤1048576→p.length+bulkVal v≤2097152→SA w v.l A c→SA w p Ap cp→Calls Tryz.prog 159 #[.agg #[.int .i64 v.kind,.int .i64 v.n,.int .i64 v.x,.string v.s,.slice A v.l.length c],.slice Ap p.length cp] w (vL w (gR p v))
theorem tS(v:aa):wO v:=by
 refine aa.ind (p:=wO) (fun v IH=> ?_) v;intro p A Ap c cp w hn hd hx hp;have hn1:=Nat.le_trans (fk v) hn;have IH':=AJ IH;clear IH;have E:=AJ (AH hx hp);clear hx hp;go_enter Tryz.func159,Tryz.ntmps159;go_wp2_with(at_builtin;(refine aw rfl _ _ 38 rfl (v:=.slice (some ⟨_,0,none⟩) 0 0) (u:=.slice Ap p.length cp) rfl rfl (aS cX 38 _ (w.heap.size+1) 86 (.agg #[.int .i64 0,.bool false]) 16 Tryz.underlying38 bY rfl (by decide) _ [] p Ap cp (ay.dF _ _ _ _ (by simp) (by omega)) (E.out.2.below (ab (ab (ae w) _) _)) (by simp;omega) (by simp;unfold maxLen;omega) (by simp)) ?_;rintro v1 w1 ⟨ho,hbl,hloc,hg⟩;rw[List.nil_append] at ho;obtain⟨A1,c1,rfl⟩:=ho.form;have HO:=AJ (AH ho hbl);clear ho hbl hloc hg));have hz1:w.heap.size+1+1≤w1.heap.size:=by have:=HO.out.2.size;simp at this;omega
 have P1:=AJ (ai.aF ((ai.new w 27 #[.int .i64 v.kind,.int .i64 v.n,.int .i64 v.x,.string v.s,.slice A v.l.length c]).alloc (.cells #[] 86)) HO.out.2 (by omega));have B1:=AJ (Below.trans (ab (ab (ae w) _) _) (HO.out.2.mono (by omega)));go_loopg[5,6] v.l.length (fun gk rv i wr=> ∃k:Nat,k≤v.l.length∧i=.int .i64 k∧gk=v.l.length-k∧ai wr w.heap.size 27 #[.int .i64 v.kind,.int .i64 v.n,.int .i64 v.x,.string v.s,.slice A v.l.length c]∧ay wr (w.heap.size+1) 54 rv (ir p v k)∧Below w.heap.size w wr);case atStart=>refine⟨0,by omega,rfl,by omega,P1.out.alloc _,?_,ab B1.out _⟩;rw[ue];exact ay.lF (RF.zx HO.out.1) 54 (by omega)
 case round=>
  obtain⟨k,hk,rfl,rfl,hP0,hown,hbel⟩:=hrel;have hz0:=hP0.lt;by_cases hlt:k<v.l.length
  ·obtain⟨b,off,A',c',rfl,hb,hI,hs,k0,k1,k2,k3,k4⟩:=(E.out.1.below hbel).bI hlt;obtain⟨p0,p1,p2,p3,p4⟩:=hP0.c5;have HS:=AJ (AH hI hs);clear hI hs;obtain⟨st,hst⟩: ∃st,st=aO v k:=⟨_,rfl⟩;have hi1:(k:Int)<v.l.length:=by omega
   have hi2:(0:Int)≤k:=by omega
   have HOW:=AJ hown;clear hown;by_cases hkd:v.kind=10
   ·have hstep:aO v k=⟨(k:Int)/2,(k:Int)%2==0⟩:=by unfold aO;rw[if_pos hkd];congr 1;(first|omega|(by_cases hh:k%2=0<;>simp[hh]<;>omega))
    have HST:=AJ hstep;clear hstep;have hkb:(v.kind==10)=true:=by simpa using hkd
    have HKD:=AJ hkd;clear hkd;have hIst:aT ((k:Int)/2):=⟨by omega,by omega⟩;have hl:(p++[(⟨(k:Int)/2,(k:Int)%2==0⟩:GStep)]).length=p.length+1:=by simp
    have HL:=AJ hl;have IHk:=AJ (IH'.out k hlt);have hbk:=gi hlt;go_wp2_with fail;have HY0:=AJ (ai.new wr 86 #[.int .i64 ((k:Int)/2),.bool ((k:Int)%2==0)]);have hb':b<w.heap.size+1:=by(obtain⟨b1,off1,cs1,hA,hb1,_⟩:=E.out.1.at hlt;injection hA with hA;injection hA with hA;omega)
    have n1:w.heap.size≠wr.heap.size:=by omega
    have n2:b≠wr.heap.size:=by omega
    go_region_held3(fun u=>u.cell? ⟨w.heap.size,4,none⟩=some (.slice (some ⟨b,off,none⟩) v.l.length c)∧u.cell? ⟨b,off+k*5,none⟩=some (.int .i64 v.l[k].kind)∧u.cell? ⟨b,off+k*5+1,none⟩=some (.int .i64 v.l[k].n)∧u.cell? ⟨b,off+k*5+1+1,none⟩=some (.int .i64 v.l[k].x)∧u.cell? ⟨b,off+k*5+1+1+1,none⟩=some (.string v.l[k].s)∧u.cell? ⟨b,off+k*5+1+1+1+1,none⟩=some (.slice A' v.l[k].l.length c')∧u.cell? ⟨wr.heap.size,0,none⟩=some (.int .i64 ((k:Int)/2))∧u.cell? ⟨wr.heap.size,1,none⟩=some (.bool ((k:Int)%2==0))) (go_keep) (first|(go_at_call 216;(refine(cM p ⟨(k:Int)/2,(k:Int)%2==0⟩ Ap cp _ (by omega) hIst (((E.out.2.below hbel).below (ab (ae wr) _)).drew)).mono ?_;rintro e w2 ⟨A2,c2,rfl,hs2,hb2⟩;rw[HL.out];have HB2:=AJ (show Below wr.heap.size wr w2 from ak (ab (ae wr) _).drew hb2);have HP2:=AJ (hP0.below HB2.out);have HY2:=AJ (HY0.out.drew.below hb2);have HS2:=AJ (show SF wr.heap.size w2 (p++[(⟨(k:Int)/2,(k:Int)%2==0⟩:GStep)]) A2 c2 from hs2.mono (ab (ae wr) _).drew.size);have q24:=(HP2.out.c5).2.2.2.2;have x20:=(HB2.out.cell (p:=⟨b,_,none⟩) hb).trans k0;have x21:=(HB2.out.cell (p:=⟨b,_,none⟩) hb).trans k1;have x22:=(HB2.out.cell (p:=⟨b,_,none⟩) hb).trans k2;have x23:=(HB2.out.cell (p:=⟨b,_,none⟩) hb).trans k3;have x24:=(HB2.out.cell (p:=⟨b,_,none⟩) hb).trans k4;obtain⟨y20,y21⟩:=HY2.out.c2;clear hs2 hb2))|(go_at_call 159;(have hc3:=IHk.out (p++[(⟨(k:Int)/2,(k:Int)%2==0⟩:GStep)]) A' A2 c' c2 w2 (by omega) (by rw[HL.out];omega) (HS.out.2.below HB2.out) HS2.out.sa;rw[HL.out] at hc3;refine hc3.mono ?_;rintro e w3 ⟨A3,c3,rfl,hs3,hb3⟩;have HB3:=AJ (show Below wr.heap.size wr w3 from ak HB2.out hb3);have HP3:=AJ (hP0.below HB3.out);have HY3:=AJ (HY2.out.below hb3);have HS3:=AJ (show SF wr.heap.size w3 (gR (p++[(⟨(k:Int)/2,(k:Int)%2==0⟩:GStep)]) v.l[k]) A3 c3 from hs3.mono HB2.out.size);have q34:=(HP3.out.c5).2.2.2.2;have x30:=(HB3.out.cell (p:=⟨b,_,none⟩) hb).trans k0;have x31:=(HB3.out.cell (p:=⟨b,_,none⟩) hb).trans k1;have x32:=(HB3.out.cell (p:=⟨b,_,none⟩) hb).trans k2;have x33:=(HB3.out.cell (p:=⟨b,_,none⟩) hb).trans k3;have x34:=(HB3.out.cell (p:=⟨b,_,none⟩) hb).trans k4;obtain⟨y30,y31⟩:=HY3.out.c2;clear hs3 hb3 hc3))|((apply aX (s:=.tmp 31) (x:=.tmp 40) (t:=51) (v:=u5) (u:=.slice A3 (gR (p++[(⟨(k:Int)/2,(k:Int)%2==0⟩:GStep)]) v.l[k]).length c3);exact rfl;exact rfl;(have hrun:=jq (P:=Tryz.prog) (W:=w3) (α:=ku) 51 51 (w.heap.size+1) 54 (.agg #[.slice none 0 0]) 24 Tryz.underlying51 i7 rfl (by decide) u5 (ir p v k) _ wr A3 c3 HOW.out HB3.out HS3.out (by have h1:=jz p v k;have h2:=iY v.l[k] (p++[(⟨(k:Int)/2,(k:Int)%2==0⟩:GStep)]);omega) (by have h1:=jz p v k;have h2:=iY v.l[k] (p++[(⟨(k:Int)/2,(k:Int)%2==0⟩:GStep)]);unfold maxLen;omega) (by omega);exact hrun;rintro v4 w4 ⟨ho,hbl,_,hg⟩;have HB4:=AJ (show Below (w.heap.size+1) w3 w4 from hbl);have HP4:=AJ (HP3.out.aF HB4.out (by omega));have HY4:=AJ (HY3.out.grown hg (fun e=>by have:=(HOW.out.an _ e).2;omega));have HO4:=AJ ho;have q44:=(HP4.out.c5).2.2.2.2;have x40:=(HB4.out.cell (p:=⟨b,_,none⟩) hb').trans x30;have x41:=(HB4.out.cell (p:=⟨b,_,none⟩) hb').trans x31;have x42:=(HB4.out.cell (p:=⟨b,_,none⟩) hb').trans x32;have x43:=(HB4.out.cell (p:=⟨b,_,none⟩) hb').trans x33;have x44:=(HB4.out.cell (p:=⟨b,_,none⟩) hb').trans x34;obtain⟨y40,y41⟩:=HY4.out.c2;clear ho hbl hg;rotate_left;exact rfl;exact rfl))));go_wp2_with fail;go_roundg(v.l.length-(k+1));case measure=>omega
    case rel=>exact⟨k+1,by omega,by go_num,rfl,HP4.out,by rw[oN p v hlt,HST.out];exact HO4.out,(ak hbel HB3.out).trans (HB4.out.mono (by omega))⟩
   ·have hstep:aO v k=⟨(k:Int),false⟩:=by unfold aO;rw[if_neg hkd]
    have HST:=AJ hstep;clear hstep;have hkb:(v.kind==10)=false:=by simpa using hkd
    have HKD:=AJ hkd;clear hkd;have hIst:aT ((k:Int)):=⟨by omega,by omega⟩;have hl:(p++[(⟨(k:Int),false⟩:GStep)]).length=p.length+1:=by simp
    have HL:=AJ hl;have IHk:=AJ (IH'.out k hlt);have hbk:=gi hlt;go_wp2_with fail;have HY0:=AJ (ai.new wr 86 #[.int .i64 ((k:Int)),.bool (false)]);have hb':b<w.heap.size+1:=by(obtain⟨b1,off1,cs1,hA,hb1,_⟩:=E.out.1.at hlt;injection hA with hA;injection hA with hA;omega)
    have n1:w.heap.size≠wr.heap.size:=by omega
    have n2:b≠wr.heap.size:=by omega
    go_region_held3(fun u=>u.cell? ⟨w.heap.size,4,none⟩=some (.slice (some ⟨b,off,none⟩) v.l.length c)∧u.cell? ⟨b,off+k*5,none⟩=some (.int .i64 v.l[k].kind)∧u.cell? ⟨b,off+k*5+1,none⟩=some (.int .i64 v.l[k].n)∧u.cell? ⟨b,off+k*5+1+1,none⟩=some (.int .i64 v.l[k].x)∧u.cell? ⟨b,off+k*5+1+1+1,none⟩=some (.string v.l[k].s)∧u.cell? ⟨b,off+k*5+1+1+1+1,none⟩=some (.slice A' v.l[k].l.length c')∧u.cell? ⟨wr.heap.size,0,none⟩=some (.int .i64 ((k:Int)))∧u.cell? ⟨wr.heap.size,1,none⟩=some (.bool (false))) (go_keep) (first|(go_at_call 216;(refine(cM p ⟨(k:Int),false⟩ Ap cp _ (by omega) hIst (((E.out.2.below hbel).below (ab (ae wr) _)).drew)).mono ?_;rintro e w2 ⟨A2,c2,rfl,hs2,hb2⟩;rw[HL.out];have HB2:=AJ (show Below wr.heap.size wr w2 from ak (ab (ae wr) _).drew hb2);have HP2:=AJ (hP0.below HB2.out);have HY2:=AJ (HY0.out.drew.below hb2);have HS2:=AJ (show SF wr.heap.size w2 (p++[(⟨(k:Int),false⟩:GStep)]) A2 c2 from hs2.mono (ab (ae wr) _).drew.size);have q24:=(HP2.out.c5).2.2.2.2;have x20:=(HB2.out.cell (p:=⟨b,_,none⟩) hb).trans k0;have x21:=(HB2.out.cell (p:=⟨b,_,none⟩) hb).trans k1;have x22:=(HB2.out.cell (p:=⟨b,_,none⟩) hb).trans k2;have x23:=(HB2.out.cell (p:=⟨b,_,none⟩) hb).trans k3;have x24:=(HB2.out.cell (p:=⟨b,_,none⟩) hb).trans k4;obtain⟨y20,y21⟩:=HY2.out.c2;clear hs2 hb2))|(go_at_call 159;(have hc3:=IHk.out (p++[(⟨(k:Int),false⟩:GStep)]) A' A2 c' c2 w2 (by omega) (by rw[HL.out];omega) (HS.out.2.below HB2.out) HS2.out.sa;rw[HL.out] at hc3;refine hc3.mono ?_;rintro e w3 ⟨A3,c3,rfl,hs3,hb3⟩;have HB3:=AJ (show Below wr.heap.size wr w3 from ak HB2.out hb3);have HP3:=AJ (hP0.below HB3.out);have HY3:=AJ (HY2.out.below hb3);have HS3:=AJ (show SF wr.heap.size w3 (gR (p++[(⟨(k:Int),false⟩:GStep)]) v.l[k]) A3 c3 from hs3.mono HB2.out.size);have q34:=(HP3.out.c5).2.2.2.2;have x30:=(HB3.out.cell (p:=⟨b,_,none⟩) hb).trans k0;have x31:=(HB3.out.cell (p:=⟨b,_,none⟩) hb).trans k1;have x32:=(HB3.out.cell (p:=⟨b,_,none⟩) hb).trans k2;have x33:=(HB3.out.cell (p:=⟨b,_,none⟩) hb).trans k3;have x34:=(HB3.out.cell (p:=⟨b,_,none⟩) hb).trans k4;obtain⟨y30,y31⟩:=HY3.out.c2;clear hs3 hb3 hc3))|((apply aX (s:=.tmp 31) (x:=.tmp 40) (t:=51) (v:=u5) (u:=.slice A3 (gR (p++[(⟨(k:Int),false⟩:GStep)]) v.l[k]).length c3);exact rfl;exact rfl;(have hrun:=jq (P:=Tryz.prog) (W:=w3) (α:=ku) 51 51 (w.heap.size+1) 54 (.agg #[.slice none 0 0]) 24 Tryz.underlying51 i7 rfl (by decide) u5 (ir p v k) _ wr A3 c3 HOW.out HB3.out HS3.out (by have h1:=jz p v k;have h2:=iY v.l[k] (p++[(⟨(k:Int),false⟩:GStep)]);omega) (by have h1:=jz p v k;have h2:=iY v.l[k] (p++[(⟨(k:Int),false⟩:GStep)]);unfold maxLen;omega) (by omega);exact hrun;rintro v4 w4 ⟨ho,hbl,_,hg⟩;have HB4:=AJ (show Below (w.heap.size+1) w3 w4 from hbl);have HP4:=AJ (HP3.out.aF HB4.out (by omega));have HY4:=AJ (HY3.out.grown hg (fun e=>by have:=(HOW.out.an _ e).2;omega));have HO4:=AJ ho;have q44:=(HP4.out.c5).2.2.2.2;have x40:=(HB4.out.cell (p:=⟨b,_,none⟩) hb').trans x30;have x41:=(HB4.out.cell (p:=⟨b,_,none⟩) hb').trans x31;have x42:=(HB4.out.cell (p:=⟨b,_,none⟩) hb').trans x32;have x43:=(HB4.out.cell (p:=⟨b,_,none⟩) hb').trans x33;have x44:=(HB4.out.cell (p:=⟨b,_,none⟩) hb').trans x34;obtain⟨y40,y41⟩:=HY4.out.c2;clear ho hbl hg;rotate_left;exact rfl;exact rfl))));go_wp2_with fail;go_roundg(v.l.length-(k+1));case measure=>omega
    case rel=>exact⟨k+1,by omega,by go_num,rfl,HP4.out,by rw[oN p v hlt,HST.out];exact HO4.out,(ak hbel HB3.out).trans (HB4.out.mono (by omega))⟩
  ·have e:k=v.l.length:=by omega
   subst e;rw[vf] at hown;obtain⟨Av,cv,rfl⟩:=hown.form;obtain⟨p0,p1,p2,p3,p4⟩:=hP0.c5;have HO:=AJ (AH hown hbel);clear hown hbel;go_wp2_with fail;go_ret;exact⟨Av,cv,rfl,HO.out.1.sf.2.mono (by omega),HO.out.2⟩
theorem ko(v:aa)(A:Option Addr)(c:Nat)(w:World)(hn:bulkVal v≤1048576)(hx:SA w v.l A c):Calls Tryz.prog 92 #[.agg #[.int .i64 v.kind,.int .i64 v.n,.int .i64 v.x,.string v.s,.slice A v.l.length c]] w (vL w (gR [] v)):=by
 have E:=AJ hx;clear hx;go_enter Tryz.func92,Tryz.ntmps92;go_wp2_with(go_at_call 159;(refine(tS v [] A (some ⟨w.heap.size+1,0,none⟩) c 0 _ hn (by simp;omega) (E.out.below (ab (ab (ae w) _) _)) (ay.sf (ay.dF _ _ 0 _ (by simp) (by omega))).2.sa).mono ?_;rintro e w1 ⟨A1,c1,rfl,hs1,hb1⟩;have HS1:=AJ (AH hs1 hb1);clear hs1 hb1));go_ret;exact⟨A1,c1,rfl,HS1.out.1.mono (by simp;omega),ak (ab (ab (ae w) _) _) HS1.out.2⟩
end Go.Proofs.YtodpdjehjllhdaaGreatDoor
