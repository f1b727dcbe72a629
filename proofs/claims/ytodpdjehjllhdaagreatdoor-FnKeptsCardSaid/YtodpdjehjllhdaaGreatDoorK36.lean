/- Part of a proof: contracts and plain laws. -/
import Derived.Test.YtodpdjehjllhdaaGreatDoorK35
set_option linter.unusedVariables false
set_option linter.unusedSimpArgs false
set_option maxRecDepth 100000
set_option maxHeartbeats 20000000
namespace Go.Proofs.YtodpdjehjllhdaaGreatDoor
open Go.RowKit
def fM(way:Int)(v:aa)(p:List GStep):Bool:=(jT way v p).isSome&& !decide ((jT way v p).getD []=p)
def fD(way:Int)(v:aa)(p:List GStep):Bool:= !(jT way v p).isSome
theorem nt(way:Int)(v:aa)(A:Option Addr)(c:Nat)(w:World)(hv:ft v)(hx:SA w v.l A c):Calls Tryz.prog 43 #[.int .i64 way,.agg #[.int .i64 v.kind,.int .i64 v.n,.int .i64 v.x,.string v.s,.slice A v.l.length c]] w (bN w (.int .i64 (((pathsG [] v).filter (fD way v)).length:Int))):=by
 have hAl:=fun w0 h=>(eQ v A c w0 (by have:=hv.2.2.2.2;omega) h).mono fun e w' h=>(show ∃A' c',e=.returned (.slice A' (pathsG [] v).length c')∧SA w' (pathsG [] v) A' c'∧Below w0.heap.size w0 w' from by obtain⟨A',c',h1,h2,h3⟩:=h;exact⟨A',c',h1,h2.sa,h3⟩);have hlen:=pathsG_len v [];obtain⟨all,hal⟩: ∃all,all=pathsG [] v:=⟨_,rfl⟩;rw[←hal] at hAl hlen ⊢;have hb4:=hv.2.2.2.2;have hla:all.length≤100000:=by omega
 have E:=Ad (Ac hx (Ac hv hAl));clear hx hv hAl hal hlen hb4;have B0:=Ad (ab (ae w) (.cells #[.int .i64 v.kind,.int .i64 v.n,.int .i64 v.x,.string v.s,.slice A v.l.length c] 27));have P0:=Ad (aj.new w 27 #[.int .i64 v.kind,.int .i64 v.n,.int .i64 v.x,.string v.s,.slice A v.l.length c]);obtain⟨R,hR⟩: ∃R:Nat,R=(all.filter (fD way v)).length:=⟨_,rfl⟩;rw[←hR];have HR:=Ad hR;clear hR;go_enter Tryz.func43,Tryz.ntmps43;go_wp2_with fail;refine(E.out.2.2 _ (E.out.1.below B0.out)).mono ?_;rintro e w1 ⟨A1,c1,rfl,hs1,hb1⟩;have P1:=Ad (P0.out.below hb1);have hz1:=P1.out.lt;have H1:=Ad (Ac hs1 (ai B0.out hb1));clear hs1 hb1;go_wp2_with fail;go_loopg[5,7] all.length (fun gk s5 i wr=> ∃k n:Nat,k≤all.length∧s5=.int .i64 (n:Int)∧i=.int .i64 k∧gk=all.length-k∧Hid (n=((all.take k).filter (fD way v)).length)∧n≤k∧Below w1.heap.size w1 wr);case atStart=>exact⟨0,0,by omega,rfl,rfl,by omega,Ad (by simp),by omega,ae w1⟩
 case round=>
  obtain⟨k,n,hk,rfl,rfl,rfl,hn,hnk,hbel⟩:=hrel;have hzr:=hbel.size;by_cases hlt:k<all.length
  ·obtain⟨b,off,Ap,cp,hA,hb,hsp,k0⟩:=(H1.out.1.below hbel).eD hlt;obtain⟨z0,z1,z2,z3,z4⟩:=(P1.out.below hbel).c5;obtain⟨q,hq⟩: ∃q,q=all[k]:=⟨_,rfl⟩;rw[←hq] at hsp k0;subst hA;have hi1:(k:Int)<all.length:=by omega
   have hi2:(0:Int)≤k:=by omega
   have hgr:w.heap.size<wr.heap.size:=by omega
   have hw1:IntKind.i64.wrap ((n:Int)+1)=(n:Int)+1:=by rw[IntKind.wrap_i64];omega
   obtain⟨sb,hsb⟩: ∃sb,sb=(jT way v q).isSome:=⟨_,rfl⟩;obtain⟨D,hD⟩: ∃D,D=(jT way v q).getD []:=⟨_,rfl⟩;have hWT:=fun w0 h1 h2=>(fA way v q A Ap c cp w0 E.out.2.1 h1 h2).mono fun e w' h=>(show ∃A3 c3,e=.returned (.tuple #[.slice A3 D.length c3,.bool sb])∧SA w' D A3 c3∧Below w0.heap.size w0 w' from by obtain⟨A3,c3,rfl,h1,hb⟩:=h;rw[←hD] at h1;exact⟨A3,c3,by rw[hsb,hD],h1.sa,hb⟩);have hfs:=List.filter_append (p:=fD way v) (all.take k) [q];rw[hq,←List.take_succ_eq_append_getElem hlt,←hq] at hfs;have hf:fD way v q= !sb:=by unfold fD;rw[←hsb]
   have HC:=Ad (Ac hWT (Ac (E.out.1.below (ai H1.out.2 hbel)) (Ac hsp (Ac hbel (Ac hfs (Ac hf hn))))));clear hWT hsp hbel hfs hf hn hq hsb hD;rename World=>wo;go_wp2_with fail;go_region_held3(fun u=>u.cell? ⟨w.heap.size,0,none⟩=some (.int .i64 v.kind)∧u.cell? ⟨w.heap.size,1,none⟩=some (.int .i64 v.n)∧u.cell? ⟨w.heap.size,2,none⟩=some (.int .i64 v.x)∧u.cell? ⟨w.heap.size,3,none⟩=some (.string v.s)∧u.cell? ⟨w.heap.size,4,none⟩=some (.slice A v.l.length c)∧u.cell? ⟨b,off+k,none⟩=some (.slice Ap q.length cp)) (go_keep) (first|(go_at_call 22;(refine(HC.out.1 _ (by first|exact HC.out.2.1|exact HC.out.2.1.drew) (by first|exact HC.out.2.2.1|exact HC.out.2.2.1.drew)).mono ?_;rintro e3 w3 ⟨A3,c3,rfl,hs3,hb3⟩;have zc:=(show Below wo.heap.size wo w3 from(by first|exact hb3|exact ai (ae wo).drew hb3));obtain⟨y0,y1,y2,y3,y4⟩:=((P1.out.below HC.out.2.2.2.1).below zc).c5;have j0:=(zc.cell (p:=⟨b,_,none⟩) hb).trans k0;have H3:=Ad (Ac hs3 zc);clear hs3 hb3 zc)));clear z0 z1 z2 z3 z4 k0 y0 y1 y2 y3 y4;cases sb
   ·go_wp2_with fail;go_roundg(all.length-(k+1));case measure=>omega
    case rel=>exact⟨k+1,n+1,by omega,by first|rfl|go_num,by go_num,rfl,Ad (by rw[HC.out.2.2.2.2.1,List.length_append,←HC.out.2.2.2.2.2.2.out,List.filter_cons,HC.out.2.2.2.2.2.1];simp),by omega,ai HC.out.2.2.2.1 H3.out.2⟩
   ·go_wp2_with fail;go_roundg(all.length-(k+1));case measure=>omega
    case rel=>exact⟨k+1,n,by omega,by first|rfl|go_num,by go_num,rfl,Ad (by rw[HC.out.2.2.2.2.1,List.length_append,←HC.out.2.2.2.2.2.2.out,List.filter_cons,HC.out.2.2.2.2.2.1];simp),by omega,ai HC.out.2.2.2.1 H3.out.2⟩
  ·have e:k=all.length:=by omega
   subst e;have hnR:n=R:=by rw[HR.out,hn.out,List.take_length]
   have HN:=Ad (Ac hnR (ai H1.out.2 hbel));clear hnR hbel hn;go_wp2_with fail;go_ret;exact⟨by rw[HN.out.1];rfl,HN.out.2⟩
theorem iw(way:Int)(v:aa)(A:Option Addr)(c:Nat)(w:World)(ht:fk w)(hv:ft v)(hx:SA w v.l A c):Calls Tryz.prog 42 #[.int .i64 way,.agg #[.int .i64 v.kind,.int .i64 v.n,.int .i64 v.x,.string v.s,.slice A v.l.length c]] w (bN w (.int .i64 (((pathsG [] v).filter (fD way v)).length:Int))):=by
 have HT0:=Ad ht;clear ht;have hAl:=fun w0 h=>(eW v A c w0 (by have:=hv.2.2.2.2;omega) h).mono fun e w' h=>(show ∃A' c',e=.returned (.slice A' (pathsG [] v).length c')∧SA w' (pathsG [] v) A' c'∧Below w0.heap.size w0 w' from by obtain⟨A',c',h1,h2,h3⟩:=h;exact⟨A',c',h1,h2.sf.2.sa,h3⟩);have hlen:=pathsG_len v [];obtain⟨all,hal⟩: ∃all,all=pathsG [] v:=⟨_,rfl⟩;rw[←hal] at hAl hlen ⊢;have hb4:=hv.2.2.2.2;have hla:all.length≤100000:=by omega
 have E:=Ad (Ac hx (Ac hv hAl));clear hx hv hAl hal hlen hb4;have B0:=Ad (ab (ae w) (.cells #[.int .i64 v.kind,.int .i64 v.n,.int .i64 v.x,.string v.s,.slice A v.l.length c] 27));have P0:=Ad (aj.new w 27 #[.int .i64 v.kind,.int .i64 v.n,.int .i64 v.x,.string v.s,.slice A v.l.length c]);obtain⟨R,hR⟩: ∃R:Nat,R=(all.filter (fD way v)).length:=⟨_,rfl⟩;rw[←hR];have HR:=Ad hR;clear hR;go_enter Tryz.func42,Tryz.ntmps42;go_wp2_with fail;refine(E.out.2.2 _ (E.out.1.below B0.out)).mono ?_;rintro e w1 ⟨A1,c1,rfl,hs1,hb1⟩;have P1:=Ad (P0.out.below hb1);have hz1:=P1.out.lt;have H1:=Ad (Ac hs1 (ai B0.out hb1));clear hs1 hb1;go_wp2_with fail;go_loopg[5,13] all.length (fun gk s5 i wr=> ∃k n:Nat,k≤all.length∧s5=.int .i64 (n:Int)∧i=.int .i64 k∧gk=all.length-k∧Hid (n=((all.take k).filter (fD way v)).length)∧n≤k∧Below w1.heap.size w1 wr);case atStart=>exact⟨0,0,by omega,rfl,rfl,by omega,Ad (by simp),by omega,ae w1⟩
 case round=>
  obtain⟨k,n,hk,rfl,rfl,rfl,hn,hnk,hbel⟩:=hrel;have hzr:=hbel.size;by_cases hlt:k<all.length
  ·obtain⟨b,off,Ap,cp,hA,hb,hsp,k0⟩:=(H1.out.1.below hbel).eD hlt;obtain⟨z0,z1,z2,z3,z4⟩:=(P1.out.below hbel).c5;obtain⟨q,hq⟩: ∃q,q=all[k]:=⟨_,rfl⟩;rw[←hq] at hsp k0;subst hA;have hi1:(k:Int)<all.length:=by omega
   have hi2:(0:Int)≤k:=by omega
   have hgr:w.heap.size<wr.heap.size:=by omega
   have hw1:IntKind.i64.wrap ((n:Int)+1)=(n:Int)+1:=by rw[IntKind.wrap_i64];omega
   obtain⟨sb,hsb⟩: ∃sb,sb=(jT way v q).isSome:=⟨_,rfl⟩;obtain⟨D,hD⟩: ∃D,D=(jT way v q).getD []:=⟨_,rfl⟩;have hWT:=fun w0 h0 h1 h2=>(di way v q A Ap c cp w0 h0 E.out.2.1 h1 h2).mono fun e w' h=>(show ∃A3 c3,e=.returned (.tuple #[.slice A3 D.length c3,.bool sb])∧SA w' D A3 c3∧Below w0.heap.size w0 w' from by obtain⟨A3,c3,rfl,h1,hb⟩:=h;rw[←hD] at h1;exact⟨A3,c3,by rw[hsb,hD],h1.sa,hb⟩);have hfs:=List.filter_append (p:=fD way v) (all.take k) [q];rw[hq,←List.take_succ_eq_append_getElem hlt,←hq] at hfs;have hf:fD way v q= !sb:=by unfold fD;rw[←hsb]
   have HC:=Ad (Ac hWT (Ac (E.out.1.below (ai H1.out.2 hbel)) (Ac hsp (Ac hbel (Ac hfs (Ac hf hn))))));clear hWT hsp hbel hfs hf hn hq hsb hD;rename World=>wo;go_wp2_with fail;refine(HC.out.1 _ ((HT0.out.below (ai H1.out.2 HC.out.2.2.2.1)).below (ab (ae wo) _)) (HC.out.2.1.below (ab (ae wo) _)) (HC.out.2.2.1.below (ab (ae wo) _))).mono ?_;rintro e3 w3 ⟨A3,c3,rfl,hs3,hb3⟩;have j0:=((aj.new wo 54 #[.slice Ap q.length cp]).below hb3).c1;have hjz:=((aj.new wo 54 #[.slice Ap q.length cp]).below hb3).lt;have H3:=Ad (Ac hs3 (ai (ab (ae wo) (.cells #[.slice Ap q.length cp] 54)) hb3));clear hs3 hb3 z0 z1 z2 z3 z4 k0;cases sb
   ·go_wp2_with fail;go_roundg(all.length-(k+1));case measure=>omega
    case rel=>exact⟨k+1,n+1,by omega,by first|rfl|go_num,by go_num,rfl,Ad (by rw[HC.out.2.2.2.2.1,List.length_append,←HC.out.2.2.2.2.2.2.out,List.filter_cons,HC.out.2.2.2.2.2.1];simp),by omega,ai HC.out.2.2.2.1 H3.out.2⟩
   ·go_wp2_with fail;go_roundg(all.length-(k+1));case measure=>omega
    case rel=>exact⟨k+1,n,by omega,by first|rfl|go_num,by go_num,rfl,Ad (by rw[HC.out.2.2.2.2.1,List.length_append,←HC.out.2.2.2.2.2.2.out,List.filter_cons,HC.out.2.2.2.2.2.1];simp),by omega,ai HC.out.2.2.2.1 H3.out.2⟩
  ·have e:k=all.length:=by omega
   subst e;have hnR:n=R:=by rw[HR.out,hn.out,List.take_length]
   have HN:=Ad (Ac hnR (ai H1.out.2 hbel));clear hnR hbel hn;go_wp2_with fail;go_ret;exact⟨by rw[HN.out.1];rfl,HN.out.2⟩
theorem pv(way:Int)(v:aa)(A:Option Addr)(c:Nat)(w:World)(hv:ft v)(hx:SA w v.l A c):Calls Tryz.prog 41 #[.int .i64 way,.agg #[.int .i64 v.kind,.int .i64 v.n,.int .i64 v.x,.string v.s,.slice A v.l.length c]] w (bN w (.int .i64 (((pathsG [] v).filter (fM way v)).length:Int))):=by
 have hAl:=fun w0 h=>(eQ v A c w0 (by have:=hv.2.2.2.2;omega) h).mono fun e w' h=>(show ∃A' c',e=.returned (.slice A' (pathsG [] v).length c')∧SA w' (pathsG [] v) A' c'∧Below w0.heap.size w0 w' from by obtain⟨A',c',h1,h2,h3⟩:=h;exact⟨A',c',h1,h2.sa,h3⟩);have hlen:=pathsG_len v [];obtain⟨all,hal⟩: ∃all,all=pathsG [] v:=⟨_,rfl⟩;rw[←hal] at hAl hlen ⊢;have hb4:=hv.2.2.2.2;have hla:all.length≤100000:=by omega
 have E:=Ad (Ac hx (Ac hv hAl));clear hx hv hAl hal hlen hb4;have B0:=Ad (ab (ae w) (.cells #[.int .i64 v.kind,.int .i64 v.n,.int .i64 v.x,.string v.s,.slice A v.l.length c] 27));have P0:=Ad (aj.new w 27 #[.int .i64 v.kind,.int .i64 v.n,.int .i64 v.x,.string v.s,.slice A v.l.length c]);obtain⟨R,hR⟩: ∃R:Nat,R=(all.filter (fM way v)).length:=⟨_,rfl⟩;rw[←hR];have HR:=Ad hR;clear hR;go_enter Tryz.func41,Tryz.ntmps41;go_wp2_with fail;refine(E.out.2.2 _ (E.out.1.below B0.out)).mono ?_;rintro e w1 ⟨A1,c1,rfl,hs1,hb1⟩;have P1:=Ad (P0.out.below hb1);have hz1:=P1.out.lt;have H1:=Ad (Ac hs1 (ai B0.out hb1));clear hs1 hb1;go_wp2_with fail;go_loopg[5,7] all.length (fun gk s5 i wr=> ∃k n:Nat,k≤all.length∧s5=.int .i64 (n:Int)∧i=.int .i64 k∧gk=all.length-k∧Hid (n=((all.take k).filter (fM way v)).length)∧n≤k∧Below w1.heap.size w1 wr);case atStart=>exact⟨0,0,by omega,rfl,rfl,by omega,Ad (by simp),by omega,ae w1⟩
 case round=>
  obtain⟨k,n,hk,rfl,rfl,rfl,hn,hnk,hbel⟩:=hrel;have hzr:=hbel.size;by_cases hlt:k<all.length
  ·obtain⟨b,off,Ap,cp,hA,hb,hsp,k0⟩:=(H1.out.1.below hbel).eD hlt;obtain⟨z0,z1,z2,z3,z4⟩:=(P1.out.below hbel).c5;obtain⟨q,hq⟩: ∃q,q=all[k]:=⟨_,rfl⟩;rw[←hq] at hsp k0;subst hA;have hi1:(k:Int)<all.length:=by omega
   have hi2:(0:Int)≤k:=by omega
   have hgr:w.heap.size<wr.heap.size:=by omega
   have hw1:IntKind.i64.wrap ((n:Int)+1)=(n:Int)+1:=by rw[IntKind.wrap_i64];omega
   obtain⟨sb,hsb⟩: ∃sb,sb=(jT way v q).isSome:=⟨_,rfl⟩;obtain⟨D,hD⟩: ∃D,D=(jT way v q).getD []:=⟨_,rfl⟩;have hWT:=fun w0 h1 h2=>(fA way v q A Ap c cp w0 E.out.2.1 h1 h2).mono fun e w' h=>(show ∃A3 c3,e=.returned (.tuple #[.slice A3 D.length c3,.bool sb])∧SA w' D A3 c3∧Below w0.heap.size w0 w' from by obtain⟨A3,c3,rfl,h1,hb⟩:=h;rw[←hD] at h1;exact⟨A3,c3,by rw[hsb,hD],h1.sa,hb⟩);have hfs:=List.filter_append (p:=fM way v) (all.take k) [q];rw[hq,←List.take_succ_eq_append_getElem hlt,←hq] at hfs;have hf:fM way v q=(sb&& !decide (D=q)):=by unfold fM;rw[←hsb,←hD]
   have HC:=Ad (Ac hWT (Ac (E.out.1.below (ai H1.out.2 hbel)) (Ac hsp (Ac hbel (Ac hfs (Ac hf hn))))));clear hWT hsp hbel hfs hf hn hq hsb hD;rename World=>wo;go_wp2_with fail;go_region_held3(fun u=>u.cell? ⟨w.heap.size,0,none⟩=some (.int .i64 v.kind)∧u.cell? ⟨w.heap.size,1,none⟩=some (.int .i64 v.n)∧u.cell? ⟨w.heap.size,2,none⟩=some (.int .i64 v.x)∧u.cell? ⟨w.heap.size,3,none⟩=some (.string v.s)∧u.cell? ⟨w.heap.size,4,none⟩=some (.slice A v.l.length c)∧u.cell? ⟨b,off+k,none⟩=some (.slice Ap q.length cp)) (go_keep) (first|(go_at_call 22;(refine(HC.out.1 _ (by first|exact HC.out.2.1|exact HC.out.2.1.drew) (by first|exact HC.out.2.2.1|exact HC.out.2.2.1.drew)).mono ?_;rintro e3 w3 ⟨A3,c3,rfl,hs3,hb3⟩;have zc:=(show Below wo.heap.size wo w3 from(by first|exact hb3|exact ai (ae wo).drew hb3));obtain⟨y0,y1,y2,y3,y4⟩:=((P1.out.below HC.out.2.2.2.1).below zc).c5;have j0:=(zc.cell (p:=⟨b,_,none⟩) hb).trans k0;have H3:=Ad (Ac hs3 zc);clear hs3 hb3 zc)));clear z0 z1 z2 z3 z4 k0 y0 y1 y2 y3 y4;cases sb
   ·go_wp2_with fail;go_roundg(all.length-(k+1));case measure=>omega
    case rel=>exact⟨k+1,n,by omega,by first|rfl|go_num,by go_num,rfl,Ad (by rw[HC.out.2.2.2.2.1,List.length_append,←HC.out.2.2.2.2.2.2.out,List.filter_cons,HC.out.2.2.2.2.2.1];simp),by omega,ai HC.out.2.2.2.1 H3.out.2⟩
   ·have hEq:=(dY D q A3 Ap c3 cp w3 H3.out.1 (HC.out.2.2.1.below H3.out.2)).mono fun _ _ h=>fV.ret h;obtain⟨g,hg⟩: ∃g,g=decide (D=q):=⟨_,rfl⟩;have hf:=HC.out.2.2.2.2.2.1;rw[←hg] at hEq hf;have HF:=Ad hf;clear hf hg;go_wp2_with fail;refine hEq.mono ?_;clear hEq;rintro e4 w4 ⟨rfl,hb4⟩;have H4:=Ad (ai H3.out.2 hb4);clear hb4;cases g
    ·go_wp2_with fail;go_roundg(all.length-(k+1));case measure=>omega
     case rel=>exact⟨k+1,n+1,by omega,by first|rfl|go_num,by go_num,rfl,Ad (by rw[HC.out.2.2.2.2.1,List.length_append,←HC.out.2.2.2.2.2.2.out,List.filter_cons,HF.out];simp),by omega,ai HC.out.2.2.2.1 H4.out⟩
    ·go_wp2_with fail;go_roundg(all.length-(k+1));case measure=>omega
     case rel=>exact⟨k+1,n,by omega,by first|rfl|go_num,by go_num,rfl,Ad (by rw[HC.out.2.2.2.2.1,List.length_append,←HC.out.2.2.2.2.2.2.out,List.filter_cons,HF.out];simp),by omega,ai HC.out.2.2.2.1 H4.out⟩
  ·have e:k=all.length:=by omega
   subst e;have hnR:n=R:=by rw[HR.out,hn.out,List.take_length]
   have HN:=Ad (Ac hnR (ai H1.out.2 hbel));clear hnR hbel hn;go_wp2_with fail;go_ret;exact⟨by rw[HN.out.1];rfl,HN.out.2⟩
theorem jW(way:Int)(v:aa)(A:Option Addr)(c:Nat)(w:World)(ht:fk w)(hv:ft v)(hx:SA w v.l A c):Calls Tryz.prog 40 #[.int .i64 way,.agg #[.int .i64 v.kind,.int .i64 v.n,.int .i64 v.x,.string v.s,.slice A v.l.length c]] w (bN w (.int .i64 (((pathsG [] v).filter (fM way v)).length:Int))):=by
 have HT0:=Ad ht;clear ht;have hAl:=fun w0 h=>(eW v A c w0 (by have:=hv.2.2.2.2;omega) h).mono fun e w' h=>(show ∃A' c',e=.returned (.slice A' (pathsG [] v).length c')∧SA w' (pathsG [] v) A' c'∧Below w0.heap.size w0 w' from by obtain⟨A',c',h1,h2,h3⟩:=h;exact⟨A',c',h1,h2.sf.2.sa,h3⟩);have hlen:=pathsG_len v [];obtain⟨all,hal⟩: ∃all,all=pathsG [] v:=⟨_,rfl⟩;rw[←hal] at hAl hlen ⊢;have hb4:=hv.2.2.2.2;have hla:all.length≤100000:=by omega
 have E:=Ad (Ac hx (Ac hv hAl));clear hx hv hAl hal hlen hb4;have B0:=Ad (ab (ae w) (.cells #[.int .i64 v.kind,.int .i64 v.n,.int .i64 v.x,.string v.s,.slice A v.l.length c] 27));have P0:=Ad (aj.new w 27 #[.int .i64 v.kind,.int .i64 v.n,.int .i64 v.x,.string v.s,.slice A v.l.length c]);obtain⟨R,hR⟩: ∃R:Nat,R=(all.filter (fM way v)).length:=⟨_,rfl⟩;rw[←hR];have HR:=Ad hR;clear hR;go_enter Tryz.func40,Tryz.ntmps40;go_wp2_with fail;refine(E.out.2.2 _ (E.out.1.below B0.out)).mono ?_;rintro e w1 ⟨A1,c1,rfl,hs1,hb1⟩;have P1:=Ad (P0.out.below hb1);have hz1:=P1.out.lt;have H1:=Ad (Ac hs1 (ai B0.out hb1));clear hs1 hb1;go_wp2_with fail;go_loopg[5,13] all.length (fun gk s5 i wr=> ∃k n:Nat,k≤all.length∧s5=.int .i64 (n:Int)∧i=.int .i64 k∧gk=all.length-k∧Hid (n=((all.take k).filter (fM way v)).length)∧n≤k∧Below w1.heap.size w1 wr);case atStart=>exact⟨0,0,by omega,rfl,rfl,by omega,Ad (by simp),by omega,ae w1⟩
 case round=>
  obtain⟨k,n,hk,rfl,rfl,rfl,hn,hnk,hbel⟩:=hrel;have hzr:=hbel.size;by_cases hlt:k<all.length
  ·obtain⟨b,off,Ap,cp,hA,hb,hsp,k0⟩:=(H1.out.1.below hbel).eD hlt;obtain⟨z0,z1,z2,z3,z4⟩:=(P1.out.below hbel).c5;obtain⟨q,hq⟩: ∃q,q=all[k]:=⟨_,rfl⟩;rw[←hq] at hsp k0;subst hA;have hi1:(k:Int)<all.length:=by omega
   have hi2:(0:Int)≤k:=by omega
   have hgr:w.heap.size<wr.heap.size:=by omega
   have hw1:IntKind.i64.wrap ((n:Int)+1)=(n:Int)+1:=by rw[IntKind.wrap_i64];omega
   obtain⟨sb,hsb⟩: ∃sb,sb=(jT way v q).isSome:=⟨_,rfl⟩;obtain⟨D,hD⟩: ∃D,D=(jT way v q).getD []:=⟨_,rfl⟩;have hWT:=fun w0 h0 h1 h2=>(di way v q A Ap c cp w0 h0 E.out.2.1 h1 h2).mono fun e w' h=>(show ∃A3 c3,e=.returned (.tuple #[.slice A3 D.length c3,.bool sb])∧SA w' D A3 c3∧Below w0.heap.size w0 w' from by obtain⟨A3,c3,rfl,h1,hb⟩:=h;rw[←hD] at h1;exact⟨A3,c3,by rw[hsb,hD],h1.sa,hb⟩);have hfs:=List.filter_append (p:=fM way v) (all.take k) [q];rw[hq,←List.take_succ_eq_append_getElem hlt,←hq] at hfs;have hf:fM way v q=(sb&& !decide (D=q)):=by unfold fM;rw[←hsb,←hD]
   have HC:=Ad (Ac hWT (Ac (E.out.1.below (ai H1.out.2 hbel)) (Ac hsp (Ac hbel (Ac hfs (Ac hf hn))))));clear hWT hsp hbel hfs hf hn hq hsb hD;rename World=>wo;go_wp2_with fail;refine(HC.out.1 _ ((HT0.out.below (ai H1.out.2 HC.out.2.2.2.1)).below (ab (ae wo) _)) (HC.out.2.1.below (ab (ae wo) _)) (HC.out.2.2.1.below (ab (ae wo) _))).mono ?_;rintro e3 w3 ⟨A3,c3,rfl,hs3,hb3⟩;have j0:=((aj.new wo 54 #[.slice Ap q.length cp]).below hb3).c1;have hjz:=((aj.new wo 54 #[.slice Ap q.length cp]).below hb3).lt;have H3:=Ad (Ac hs3 (ai (ab (ae wo) (.cells #[.slice Ap q.length cp] 54)) hb3));clear hs3 hb3 z0 z1 z2 z3 z4 k0;cases sb
   ·go_wp2_with fail;go_roundg(all.length-(k+1));case measure=>omega
    case rel=>exact⟨k+1,n,by omega,by first|rfl|go_num,by go_num,rfl,Ad (by rw[HC.out.2.2.2.2.1,List.length_append,←HC.out.2.2.2.2.2.2.out,List.filter_cons,HC.out.2.2.2.2.2.1];simp),by omega,ai HC.out.2.2.2.1 H3.out.2⟩
   ·have hEq:=(jL D q A3 Ap c3 cp w3 H3.out.1 (HC.out.2.2.1.below H3.out.2)).mono fun _ _ h=>fV.ret h;obtain⟨g,hg⟩: ∃g,g=decide (D=q):=⟨_,rfl⟩;have hf:=HC.out.2.2.2.2.2.1;rw[←hg] at hEq hf;have HF:=Ad hf;clear hf hg;go_wp2_with fail;refine hEq.mono ?_;clear hEq;rintro e4 w4 ⟨rfl,hb4⟩;have H4:=Ad (ai H3.out.2 hb4);clear hb4;cases g
    ·go_wp2_with fail;go_roundg(all.length-(k+1));case measure=>omega
     case rel=>exact⟨k+1,n+1,by omega,by first|rfl|go_num,by go_num,rfl,Ad (by rw[HC.out.2.2.2.2.1,List.length_append,←HC.out.2.2.2.2.2.2.out,List.filter_cons,HF.out];simp),by omega,ai HC.out.2.2.2.1 H4.out⟩
    ·go_wp2_with fail;go_roundg(all.length-(k+1));case measure=>omega
     case rel=>exact⟨k+1,n,by omega,by first|rfl|go_num,by go_num,rfl,Ad (by rw[HC.out.2.2.2.2.1,List.length_append,←HC.out.2.2.2.2.2.2.out,List.filter_cons,HF.out];simp),by omega,ai HC.out.2.2.2.1 H4.out⟩
  ·have e:k=all.length:=by omega
   subst e;have hnR:n=R:=by rw[HR.out,hn.out,List.take_length]
   have HN:=Ad (Ac hnR (ai H1.out.2 hbel));clear hnR hbel hn;go_wp2_with fail;go_ret;exact⟨by rw[HN.out.1];rfl,HN.out.2⟩
theorem uD(code:List UInt8)(A:Option Addr)(c:Nat)(w:World):Calls Tryz.prog 8 #[.slice A code.length c] w (bN w (.bool (decide (1048576<code.length)))):=by
 by_cases h:1048576<code.length
 ·have h':(1048576:Int)<code.length:=by omega
  rw[decide_eq_true h];go_enter Tryz.func8,Tryz.ntmps8;go_wp2_with fail;go_ret;exact⟨rfl,ae w⟩
 ·have h': ¬((1048576:Int)<code.length):=by omega
  rw[decide_eq_false h];go_enter Tryz.func8,Tryz.ntmps8;go_wp2_with fail;go_ret;exact⟨rfl,ae w⟩
def xv(v:aa):Prop:=valOkP v=true∧ft v
theorem xv.at{v:aa}(h:xv v){i:Nat}(hi:i<v.l.length):xv v.l[i]:=by
 have hk:=bE (aL h.1).2 hi;have hb:=jE hi;have hb2:=h.2.2.2.2.2;have hp:=fh (List.getElem_mem hi);have hp2:=h.2.2.2.2.1;rw[aW] at hp2;have hd:=dr (v:=v) (List.getElem_mem hi);have hd2:=h.2.2.2.1;have hs:=au v.l[i];exact⟨hk,ef hk (by unfold maxLen;omega),h.2.2.1.sub.at (List.getElem_mem hi),by omega,by omega,by omega⟩
theorem je{way:Int}{v:aa}(h:valOkP v=true∧1≤way∧way≤4)(L:ag):L∈(aJ way v).2↔L∈(projP way v []).2:=by
 unfold aJ;rw[if_pos h];exact(bF an (projP way v []).2 []).mem_iff.trans (by simp)
theorem iC(xs ys:List GStep)(A A':Option Addr)(c c':Nat)(w:World)(hx:SA w xs A c)(hy:SA w ys A' c'):Calls Tryz.prog 24 #[.slice A xs.length c,.slice A' ys.length c'] w (fV w (.bool (decide (xs=ys)))):=by
 obtain⟨r,hr⟩: ∃r,r=decide (xs=ys):=⟨_,rfl⟩;rw[←hr];have R:=Ad hr;clear hr;have hl:xs.length≤9223372036854775807:=by have:=hx.len;unfold maxLen at this;omega
 have hl':ys.length≤9223372036854775807:=by have:=hy.len;unfold maxLen at this;omega
 have E:=Ad (Ac hx hy);clear hx hy;by_cases he:xs.length=ys.length
 ·have he':((xs.length:Int) != ys.length)=false:=by simp[he]
  have HE:=Ad he;clear he;go_enter Tryz.func24,Tryz.ntmps24;go_wp2_with fail;go_loopg[5] xs.length (fun gk i wr=> ∃k:Nat,k≤xs.length∧i=.int .i64 k∧gk=xs.length-k∧Hid (xs.take k=ys.take k)∧ ∃n,wr=w.drewN n);case atStart=>exact⟨0,by omega,rfl,by omega,rfl,0,rfl⟩
  case round=>
   obtain⟨k,hk,rfl,rfl,hT,nd,rfl⟩:=hrel;by_cases hlt:k<xs.length
   ·obtain⟨b,off,rfl,hb,hI,k0,k1⟩:=E.out.1.dv hlt;have hlt':k<ys.length:=HE.out▸hlt;obtain⟨b',off',rfl,hb',hI',k0',k1'⟩:=E.out.2.dv hlt';have hi1:(k:Int)<xs.length:=by omega
    have hi2:(k:Int)<ys.length:=by omega
    have hi3:(0:Int)≤k:=by omega
    rcases Decidable.em (xs[k]=ys[k]) with hq|hq
    ·have hne:=dm (x:=xs[k]) (y:=ys[k]) hq;have HQ:=Ad hq;clear hq;go_wp2_with fail;go_quiet(fail);go_wp2_with fail;go_roundg(xs.length-(k+1));case measure=>omega
     case rel=>exact⟨k+1,by omega,by go_num,rfl,gX hlt hlt' hT.out HQ.out,by first|exact⟨_,rfl⟩|exact jS _ _ _⟩
    ·have hne:=cS (x:=xs[k]) (y:=ys[k]) hq;have HQ:=Ad hq;clear hq;go_wp2_with fail;go_quiet(fail);go_wp2_with fail;go_ret;exact⟨by rw[R.out,decide_eq_false (fun h=>HQ.out (by subst h;rfl))];rfl,by first|exact⟨_,rfl⟩|exact jS _ _ _⟩
   ·have e:k=xs.length:=by omega
    go_wp2_with fail;go_ret;exact⟨by rw[R.out,decide_eq_true (iX e HE.out hT.out)];rfl,_,rfl⟩
 ·have he':((xs.length:Int) != ys.length)=true:=by simp;omega
  go_enter Tryz.func24,Tryz.ntmps24;go_wp2_with fail;go_ret;exact⟨by rw[R.out,decide_eq_false (fun h=>he (by rw[h]))];rfl,0,rfl⟩
theorem mC: ∀(l:List aa)(a:aa),countL (l++[a])=countL l+countG a|[],a=>by rw[List.nil_append,countL,countL,countL];omega|b::l,a=>by rw[List.cons_append,countL,countL,mC l a];omega
def zm(v:aa):Prop:= ∀(A:Option Addr)(c:Nat)(w:World),bulkVal v≤1048576→SA w v.l A c→Calls Tryz.prog 44 #[.agg #[.int .i64 v.kind,.int .i64 v.n,.int .i64 v.x,.string v.s,.slice A v.l.length c]] w (bN w (.int .i64 (countG v:Int)))
theorem rz(v:aa):zm v:=by
 refine aa.ind (p:=zm) (fun v IH=> ?_) v;intro A c w hb hx;have hlen:=Nat.le_trans (gd v) hb;obtain⟨R,hR⟩: ∃R,R=countG v:=⟨_,rfl⟩;rw[←hR];have E:=Ad (Ac hx (Ac hR (Ac IH hb)));clear hx hR IH hb;have B0:=Ad (ab (ae w) (.cells #[.int .i64 v.kind,.int .i64 v.n,.int .i64 v.x,.string v.s,.slice A v.l.length c] 27));have P0:=Ad (aj.new w 27 #[.int .i64 v.kind,.int .i64 v.n,.int .i64 v.x,.string v.s,.slice A v.l.length c]);go_enter Tryz.func44,Tryz.ntmps44;go_wp2_with fail;go_loopg[3,9] v.l.length (fun gk s3 i wr=> ∃k n:Nat,k≤v.l.length∧s3=.int .i64 (n:Int)∧i=.int .i64 k∧gk=v.l.length-k∧Hid (n=1+countL (v.l.take k))∧n≤1+k*1048577∧Below w.heap.size w wr);case atStart=>exact⟨0,1,by omega,rfl,rfl,by omega,Ad (by rw[List.take_zero,countL]),by omega,B0.out⟩
 case round=>
  obtain⟨k,n,hk,rfl,rfl,rfl,hn,hnk,hbel⟩:=hrel;by_cases hlt:k<v.l.length
  ·obtain⟨b,off,A1,c1,hA,hb,hIx,hsx,k0,k1,k2,k3,k4⟩:=(E.out.1.below hbel).bV hlt;obtain⟨x,hxe⟩: ∃x,x=v.l[k]:=⟨_,rfl⟩;have hc:=E.out.2.2.1 k hlt;have hbk:=jE hlt;rw[←hxe] at hIx hsx k0 k1 k2 k3 k4 hc hbk;subst hA;have hbx:=E.out.2.2.2;have hcx:=rJ x;have hcall:=hc A1 c1 (wr.alloc (.cells #[.int .i64 x.kind,.int .i64 x.n,.int .i64 x.x,.string x.s,.slice A1 x.l.length c1] 27)) (by omega) (hsx.below (ab (ae wr) _));have hts:countL (v.l.take (k+1))=countL (v.l.take k)+countG x:=by rw[List.take_succ_eq_append_getElem hlt,←hxe,mC]
   obtain⟨m,hm⟩: ∃m,m=countG x:=⟨_,rfl⟩;rw[←hm] at hcall hts hcx;have hi1:(k:Int)<v.l.length:=by omega
   have hi2:(0:Int)≤k:=by omega
   have hm2:m≤1048577:=by omega
   have hw1:IntKind.i64.wrap ((n:Int)+(m:Int))=(n:Int)+(m:Int):=by rw[IntKind.wrap_i64];omega
   have HC:=Ad (Ac hcall (Ac hbel (Ac hts hn)));clear hcall hbel hts hn hm hxe hIx hsx hc hcx hbk hbx;rename World=>wo;go_wp2_with fail;refine HC.out.1.mono ?_;rintro e w2 ⟨rfl,hb2⟩;have H2:=Ad (ai (ab HC.out.2.1 _) hb2);clear hb2 k0 k1 k2 k3 k4;go_wp2_with fail;go_roundg(v.l.length-(k+1));case measure=>omega
   case rel=>exact⟨k+1,n+m,by omega,by first|rfl|go_num,by go_num,rfl,Ad (by rw[HC.out.2.2.1,HC.out.2.2.2.out];omega),by omega,H2.out⟩
  ·have e:k=v.l.length:=by omega
   subst e;have hnR:n=R:=by rw[E.out.2.1,vT,hn.out,List.take_length]
   have HN:=Ad (Ac hnR hbel);clear hnR hn hbel;go_wp2_with fail;go_ret;exact⟨by rw[HN.out.1];rfl,HN.out.2⟩
theorem lN(xs:List (List GStep))(A A':Option Addr)(c c':Nat)(w:World)(hx:SA w xs A c)(hy:SA w xs A' c'):Calls Tryz.prog 39 #[.slice A xs.length c,.slice A' xs.length c'] w (bN w (.bool true)):=by
 have hl:xs.length≤9223372036854775807:=by have:=hx.len;unfold maxLen at this;omega
 have hnn:((xs.length:Int) != xs.length)=false:=by simp
 have E:=Ad (Ac hx hy);clear hx hy;go_enter Tryz.func39,Tryz.ntmps39;go_wp2_with fail;clear hnn;go_loopg[5] xs.length (fun gk i wr=> ∃k:Nat,k≤xs.length∧i=.int .i64 k∧gk=xs.length-k∧Below w.heap.size w wr);case atStart=>exact⟨0,by omega,rfl,by omega,ae w⟩
 case round=>
  obtain⟨k,hk,rfl,rfl,hbel⟩:=hrel;by_cases hlt:k<xs.length
  ·obtain⟨b,off,Ap,cp,hA1,hb,hsp,k0⟩:=(E.out.1.below hbel).eD hlt;obtain⟨b',off',Ap',cp',hA2,hb',hsp',k0'⟩:=(E.out.2.below hbel).eD hlt;obtain⟨q,hq⟩: ∃q,q=xs[k]:=⟨_,rfl⟩;rw[←hq] at hsp k0 hsp' k0';subst hA1 hA2;have hi1:(k:Int)<xs.length:=by omega
   have hi2:(0:Int)≤k:=by omega
   have hsm:=fun w0 h1 h2=>(iC q q Ap Ap' cp cp' w0 h1 h2).mono fun _ _ h=>fV.ret h;rw[decide_eq_true rfl] at hsm;have HS:=Ad (Ac hsm (Ac hsp (Ac hsp' hbel)));clear hsm hsp hsp' hbel hq;rename World=>wq;go_wp2_with fail;go_region_held3(fun u=>u.cell? ⟨b,off+k,none⟩=some (.slice Ap q.length cp)∧u.cell? ⟨b',off'+k,none⟩=some (.slice Ap' q.length cp')) (go_keep) (first|(go_at_call 24;(refine(HS.out.1 _ (by first|exact HS.out.2.1|exact HS.out.2.1.drew) (by first|exact HS.out.2.2.1|exact HS.out.2.2.1.drew)).mono ?_;rintro e6 w6 ⟨rfl,hb6⟩;have zc:=(show Below wq.heap.size wq w6 from(by first|exact hb6|exact ai (ae wq).drew hb6));have y0:=(zc.cell (p:=⟨b,_,none⟩) hb).trans k0;have y1:=(zc.cell (p:=⟨b',_,none⟩) hb').trans k0';have H6:=Ad zc;clear hb6 zc)));go_wp2_with fail;go_roundg(xs.length-(k+1));case measure=>omega
   case rel=>exact⟨k+1,by omega,by go_num,rfl,ai HS.out.2.2.2 H6.out⟩
  ·have e:k=xs.length:=by omega
   subst e;have L1:=Ad hbel;clear hbel;go_wp2_with fail;go_ret;exact⟨rfl,L1.out⟩
theorem rZ{v:aa}{i j:Nat}(h:aT v i=aT v j):i=j:=by
 unfold aT at h;split at h;·have h1:=congrArg GStep.at_ h;have h2:=congrArg GStep.name h;simp only at h1 h2;have h3:=decide_eq_decide.1 h2;omega
 ·have h1:=congrArg GStep.at_ h;simp only at h1;omega
theorem j4: ∀(l:List aa)(p q:List GStep)(v:aa)(i:Nat),q∈pathsL p v i l→ ∃j,i≤j∧(p++[aT v j]) <+: q|[],p,q,v,i,h=>by simp[pathsL] at h|a::l,p,q,v,i,h=>by rw[pathsL,List.mem_append] at h;rcases h with h|h;(·obtain⟨r,x,rfl,_⟩:=jH a _ q h;exact⟨i,Nat.le_refl _,List.prefix_append _ _⟩);·obtain⟨j,hj,hp⟩:=j4 l p q v (i+1) h;exact⟨j,by omega,hp⟩
theorem wU{p q:List GStep}{s t:GStep}(h1:(p++[s]) <+: q)(h2:(p++[t]) <+: q):s=t:=by
 obtain⟨r1,rfl⟩:=h1;obtain⟨r2,h⟩:=h2;rw[List.append_assoc,List.append_assoc] at h;have:=List.append_cancel_left h;simp at this;exact this.1.symm
mutual
theorem pathsG_nodup : ∀ (v : aa) (p : List GStep), (pathsG p v).Nodup
  | ⟨k, n, x, s, l⟩, p => by
    rw [pathsG, List.nodup_cons]
    refine ⟨fun h => ?_, pathsL_nodup l p _ 0⟩
    obtain ⟨j, _, hp⟩ := j4 l p p _ 0 h
    have := hp.length_le
    rw [List.length_append, List.length_singleton] at this
    omega
theorem pathsL_nodup : ∀ (l : List aa) (p : List GStep) (v : aa) (i : Nat), (pathsL p v i l).Nodup
  | [], p, v, i => by simp [pathsL]
  | a :: l, p, v, i => by
    rw [pathsL, List.nodup_append]
    refine ⟨pathsG_nodup a _, pathsL_nodup l p v (i + 1), fun q hq q' hq' e => ?_⟩
    subst e
    obtain ⟨r, x, rfl, _⟩ := jH a _ q hq
    obtain ⟨j, hj, hp⟩ := j4 l p _ v (i + 1) hq'
    have := rZ (wU (List.prefix_append _ _) hp)
    omega
end
theorem lW{way:Int}{v:aa}{p:List GStep}(h:p∈du way v): ∃a,jT way v p=some a∧ ∀L∈(aJ way v).2,¬p <+: L.p:=by
 rw[lh] at h;have h2:=(List.mem_filter.1 h).2;unfold fK at h2;rw[sy,Bool.and_eq_true,Bool.not_eq_true'] at h2;obtain⟨a,ha⟩:=Option.isSome_iff_exists.1 h2.1;exact⟨a,ha,ua h2.2⟩
theorem xI{way:Int}{v:aa}(hc:valOkP v=true∧1≤way∧way≤4)(p:List GStep):jT way v p=aC way v p:=by
 unfold jT;rw[if_pos hc]
theorem tT{way:Int}{v:aa}(hc:valOkP v=true∧1≤way∧way≤4){i k:Nat}(hi:i<(du way v).length)(hk:k<(du way v).length)(hne:i≠k){a b:List GStep}(ha:jT way v (du way v)[i]=some a)(hb:jT way v (du way v)[k]=some b):a≠b:=by
 intro e;subst e;obtain⟨_,_,h1⟩:=lW (List.getElem_mem hi);obtain⟨_,_,h2⟩:=lW (List.getElem_mem hk);rw[xI hc] at ha hb;have:=vh way v hc.1 [] _ _ a ha hb (fun L hL=>by rw[List.nil_append];exact h1 L ((je hc L).2 hL)) (fun L hL=>by rw[List.nil_append];exact h2 L ((je hc L).2 hL));have hnd:(du way v).Nodup:=by rw[lh];exact(pathsG_nodup v []).filter _
 exact hne ((List.getElem_inj hnd).1 this)
theorem vB{way:Int}{v:aa}(hc:valOkP v=true∧1≤way∧way≤4)(h:(aJ way v).2.length=0):(du way v).length=countG v∧((pathsG [] v).filter (fM way v)).length=0∧((pathsG [] v).filter (fD way v)).length=0:=by
 have h0:=List.length_eq_zero_iff.1 h;have hp:(projP way v []).2=[]:=by rw[List.eq_nil_iff_forall_not_mem];intro L hL;have:=(je hc L).2 hL;rw[h0] at this;cases this
 have hall: ∀p∈pathsG [] v,jT way v p=some p:=fun p hp'=>by obtain⟨r,x,rfl,hx⟩:=jH v [] p hp';rw[xI hc];exact pP way v hc.1 hp _ x hx
 refine⟨by rw[xl hc.1 hc.2 h0,paths_count],?_,?_⟩;·rw[List.length_eq_zero_iff,List.filter_eq_nil_iff];intro p hp';unfold fM;rw[hall p hp'];simp
 ·rw[List.length_eq_zero_iff,List.filter_eq_nil_iff];intro p hp';unfold fD;rw[hall p hp'];simp
theorem vQ{way:Int}{v:aa}(h: ¬(aJ way v).2.length=0):(du way v).length<countG v∧((pathsG [] v).filter (fD way v)).length≤countG v:=⟨vk fun e=>h (by rw[e];rfl),by rw[←paths_count v []];exact List.length_filter_le _ _⟩
section
structure Ce (g : Nat) (w w' : World) : Prop where
  low : Below g w w'
  high : ∀ k, g < k → k < w.heap.size → w'.heap[k]? = w.heap[k]?
namespace Ce
variable {g : Nat} {w w' w'' : World}
theorem refl(g:Nat)(w:World):Ce g w w:=⟨Below.refl _ _,fun _ _ _=>rfl⟩
theorem size(h:Ce g w w'):w.heap.size≤w'.heap.size:=h.low.size
theorem trans(h:Ce g w w')(k:Ce g w' w''):Ce g w w'':=⟨h.low.trans k.low,fun i h1 h2=>(k.high i h1 (Nat.lt_of_lt_of_le h2 h.size)).trans (h.high i h1 h2)⟩
theorem of(h:Below w.heap.size w w')(hg:g≤w.heap.size):Ce g w w':=⟨h.mono hg,fun k _ h2=>h.block k h2⟩
theorem heap(h:Ce g w w'){k:Nat}(hk:k≠g)(hl:k<w.heap.size):w'.heap[k]? =w.heap[k]? :=by
 rcases Nat.lt_or_gt_of_ne hk with h1|h1;·exact h.low.block k h1
 ·exact h.high k h1 hl
theorem dI(h:Ce g w w'){b:Nat}{t:TypeId}{cs:Array Value}(hb:aj w b t cs)(hne:b≠g):aj w' b t cs:=(h.heap hne hb.lt).trans hb
theorem below(h:Ce g w w'){n:Nat}(hn:n≤g):Below n w w':=h.low.mono hn
theorem set(h:Ce g w w')(o:Nat)(v:Value):Ce g w (w'.setCell ⟨g,o,none⟩ v):=h.trans ⟨(Below.refl g w').setCell (p:=⟨g,o,none⟩) (Nat.le_refl g) _,fun k h1 _=>Below.heap_setCell _ _ _ _ (by simp;omega)⟩
theorem add(h:Ce g w w')(o:Obj)(hg:g≤w'.heap.size):Ce g w (w'.alloc o):=h.trans (of (ab (ae w') o) hg)
theorem drew(h:Ce g w w'):Ce g w w'.drew:=⟨h.low.drew,h.high⟩
theorem ss{α:Type}[aE α](h:Ce g w w'){S:Nat→Prop}{l:List α}{A:Option Addr}{c:Nat}(hs:SS w S l A c)(hS: ∀b,S b→b≠g∧b<w.heap.size):SS w' S l A c:=SS.ak hs (fun b hb=>h.heap (hS b hb).1 (hS b hb).2) (fun _ hb=>hb)
end Ce
def ez(w:World)(g:Nat)(code:List UInt8):Prop:= ∃(A:Option Addr) (c i:Nat) (h:Int),aj w g 100 #[.slice A code.length c,.int .i64 i,.int .i64 h]∧i≤code.length∧a8 h∧code.length≤1048576∧SS w (fun b=>b<g) code A c
theorem ez.lt{w:World}{g:Nat}{code:List UInt8}(h:ez w g code):g<w.heap.size:=by
 obtain⟨A,c,i,h,hb,_⟩:=h;exact hb.lt
theorem ez.below{w w':World}{g:Nat}{code:List UInt8}(h:ez w g code)(hb:Below w.heap.size w w'):ez w' g code:=by
 have hg:=h.lt;obtain⟨A,c,i,h,h1,h2,h3,h4,h5⟩:=h;exact⟨A,c,i,h,h1.below hb,h2,h3,h4,SS.ak h5 (fun b hb'=>hb.block b (by omega)) (fun _ h=>h)⟩
def rI(g:Nat)(code:List UInt8)(lo hi:Int)(w:World)(e:Ending)(w':World):Prop:= ∃k:Int,e=.returned (.int .i64 k)∧lo≤k∧k≤hi∧Ce g w w'∧ez w' g code
theorem kA(y:Int):0≤bits .and .i64 y 255∧bits .and .i64 y 255≤255:=by
 have h2:(BitVec.ofInt 64 ((255:Nat):Int)).toNat=255:=by rw[BitVec.ofInt_natCast,BitVec.toNat_ofNat]
 have h3:bits .and .i64 y ((255:Nat):Int)=IntKind.i64.wrap ((BitVec.ofInt 64 y &&& BitVec.ofInt 64 ((255:Nat):Int)).toNat:Int):=rfl;have h4: ∀T:Nat,T &&& 255=T%256:=fun T=>Nat.and_two_pow_sub_one_eq_mod T 8;show 0≤bits .and .i64 y ((255:Nat):Int)∧bits .and .i64 y ((255:Nat):Int)≤255;rw[h3,BitVec.toNat_and,h2,h4,IntKind.wrap_i64];have h5:(BitVec.ofInt 64 y).toNat%256<256:=Nat.mod_lt _ (by decide);generalize(BitVec.ofInt 64 y).toNat%256=T at h5 ⊢;omega
theorem fU(g:Nat)(code:List UInt8)(w:World)(hc:ez w g code):Calls Tryz.prog 126 #[.pointer (some ⟨g,0,none⟩)] w (rI g code 0 255 w):=by
 obtain⟨A,c,i,h,hb,hi,hh,hl,hs⟩:=hc;obtain⟨q0,q1,q2⟩:=hb.c3;have hg:=hb.lt;have f0:=hb.frozen 0;have f1:=hb.frozen 1;have f2:=hb.frozen 2;have HB:=Ad (Ac hb hs);clear hb hs;have H64: ∀y:Int,a8 (wrap64 y):=fun y=>by unfold wrap64;exact⟨by omega,by omega⟩
 go_enter Tryz.func126,Tryz.ntmps126;go_wp2_with fail;have hh2:=H64 (wrap64 (h*6364136223846793005)+1442695040888963407);generalize wrap64 (wrap64 (h*6364136223846793005)+1442695040888963407)=h2 at hh2 ⊢;have hb1:=HB.out.1.cT 2 (.int .i64 h2);have hce:=(Ce.refl g w).set 2 (.int .i64 h2);have hs1:=hce.ss HB.out.2 (fun b hb=>⟨by omega,by omega⟩);generalize w.setCell ⟨g,2,none⟩ (.int .i64 h2)=W at hb1 hce hs1 ⊢;clear q0 q1 q2 f0 f1 f2 HB;obtain⟨q0,q1,q2⟩:=hb1.c3;have hgW:=hb1.lt;have f1:=hb1.frozen 1;have HB:=Ad (Ac hb1 (Ac hce hs1));clear hb1 hce hs1;go_quiet(fail);go_wp2_with fail;have hx:=kA (bits .xor .i64 (h2/8589934592) (h2/140737488355328));generalize bits .and .i64 (bits .xor .i64 (h2/8589934592) (h2/140737488355328)) 255=x at hx ⊢;by_cases hlt:i<code.length
 ·have hlt':(i:Int)<code.length:=by omega
  obtain⟨b,off,rfl,hb',kk⟩:=(show SA W code A c from SS.ak HB.out.2.2 (fun _ _=>rfl) (fun b h=>by omega)).byte_at hlt;have hnb:b≠g:=by intro e;obtain⟨F,⟨_,_,h3⟩,hF⟩:=HB.out.2.2;rcases h3 with⟨he,_⟩|⟨b2,off2,F',xs,hA,rfl,_,_⟩;(·rw[he] at hlt;simp at hlt);·injection hA with hA;injection hA with e1 e2;have:=hF b2 (List.mem_cons_self ..);omega
  have hi0:(0:Int)≤i:=by omega
  go_quiet(fail);go_wp2_with fail;go_quiet(fail);go_wp2_with fail;have hx2:=kA (wrap64 (x+wrap64 (code[i].toNat:Int)));generalize bits .and .i64 (wrap64 (x+wrap64 (code[i].toNat:Int))) 255=y at hx2 ⊢;go_ret;refine⟨y,rfl,hx2.1,hx2.2,(HB.out.2.1.trans (Ce.of (below_drewN (ae W) _) (by omega))).set 1 _,⟨some ⟨b,off,none⟩,c,i+1,h2,?_,by omega,hh2,hl,?_⟩⟩;·exact(HB.out.1.drewN _).cT 1 _
  ·exact((Ce.of (below_drewN (ae W) _) (by omega):Ce g W (W.drewN _)).set 1 _).ss HB.out.2.2 (fun b hb=>⟨by omega,by omega⟩)
 ·have hlt': ¬((i:Int)<code.length):=by omega
  go_quiet(fail);go_wp2_with fail;go_ret;exact⟨x,rfl,hx.1,hx.2,HB.out.2.1.trans ((Ce.of (below_drewN (ae W) _) (by omega))),(show ez W g code from⟨A,c,i,h2,HB.out.1,hi,hh2,hl,HB.out.2.2⟩).below (below_drewN (ae W) _)⟩
end
end Go.Proofs.YtodpdjehjllhdaaGreatDoor
