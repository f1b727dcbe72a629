/- Part of a proof: contracts and plain laws. -/
import Derived.Test.YtodpdjehjllhdaaGreatDoorZ22
import Derived.Test.YtodpdjehjllhdaaGreatDoorZ23
set_option linter.unusedVariables false
set_option maxRecDepth 100000
set_option maxHeartbeats 20000000
namespace Go.Proofs.YtodpdjehjllhdaaGreatDoor
open Go.RowKit
theorem nI(way:Int)(w:World):Calls Tryz.prog 80 #[.int .i64 way] w (cd w (.bool (decide (1≤way∧way≤4)))):=by
 obtain⟨D,hD⟩: ∃D,D=decide (1≤way∧way≤4):=⟨_,rfl⟩;rw[←hD];have h0:=aR way 1 4;rw[←hD] at h0;clear hD;go_enter Tryz.func80,Tryz.ntmps80;go_wp2_with fail;refine(h0 _).mono ?_;rintro e w1 ⟨rfl,hb⟩;go_wp2_with fail;go_ret;exact⟨rfl,hb⟩
theorem ta{n d:Nat}{l:List ag}(h:im n d l):bV l≤n+n*d:=by
 have h2: ∀l:List ag,(∀x∈l,x.p.length≤d)→(l.map dt).sum≤l.length*d:=by intro l;induction l with|nil=>intro _;simp|cons a l ih=>intro hl;have h1:=hl a (by simp);have h3:=ih fun x hx=>hl x (by simp[hx]);simp only[List.map_cons,List.sum_cons,List.length_cons,Nat.add_mul,Nat.one_mul];unfold dt at*;omega
 have h3:=h2 l fun x hx=>(h.2 x hx).1;have h4:l.length*d≤n*d:=Nat.mul_le_mul_right _ h.1;have:=h.1;unfold bV;omega
def sJ(w:World)(r:aa×List ag)(e:Ending)(w':World):Prop:= ∃A c A2 c2,e=.returned (.agg #[.int .i64 r.1.kind,.int .i64 r.1.n,.int .i64 r.1.x,.string r.1.s,.slice A r.1.l.length c,.slice A2 r.2.length c2])∧SB w.heap.size w' r.1.l A c∧SB w.heap.size w' r.2 A2 c2∧Below w.heap.size w w'
theorem SB.vZ{α:Type}[aG α]{B:Nat}{w:World}{l:List α}{A:Option Addr}{c:Nat}(h:SB B w l A c):SB B w.drew l A c:=SS.an h (fun b h=>rfl) (fun b h=>h)
theorem va{w w5:World}{B:Nat}{T:aa}{L:List ag}{A1 A5:Option Addr}{c1 c5:Nat}(h:Below w.heap.size w w5)(hB:w.heap.size+1<B)(h1:SB B w5 T.l A1 c1)(h2:SB B w5 L A5 c5):sJ w (T,L) (.returned (.agg #[.int .i64 T.kind,.int .i64 T.n,.int .i64 T.x,.string T.s,.slice A1 T.l.length c1,.slice A5 L.length c5])) ((bC w5 (w.heap.size+1) (.int .i64 T.kind) (.int .i64 T.n) (.int .i64 T.x) (.string T.s) (.slice A1 T.l.length c1)).setCell ⟨w.heap.size+1,5,none⟩ (.slice A5 L.length c5)):=⟨A1,c1,A5,c5,rfl,((h1.bu hB (Nat.le_refl _) _ _ _ _ _).set (g:=w.heap.size+1) hB _ rfl _).mono (by omega),((h2.bu hB (Nat.le_refl _) _ _ _ _ _).set (g:=w.heap.size+1) hB _ rfl _).mono (by omega),(aq h (Nat.le_succ _) _ _ _ _ _).setCell (Nat.le_succ _) _⟩
theorem SA.xp{α:Type}[aG α](w:World)(A:Option Addr):SA w ([]:List α) A 0:=⟨[],⟨by simp,by simp[maxLen],.inl ⟨rfl,rfl,by simp⟩⟩,by simp⟩
theorem ah.c6{w:World}{g:Nat}{t:TypeId}{a b c d e f:Value}(h:ah w g t #[a,b,c,d,e,f]):w.cell? ⟨g,0,none⟩=some a∧w.cell? ⟨g,1,none⟩=some b∧w.cell? ⟨g,2,none⟩=some c∧w.cell? ⟨g,3,none⟩=some d∧w.cell? ⟨g,4,none⟩=some e∧w.cell? ⟨g,5,none⟩=some f:=⟨h.cell 0,h.cell 1,h.cell 2,h.cell 3,h.cell 4,h.cell 5⟩
theorem mc{w w1:World}(h:Below w.heap.size w w1):sJ w (⟨0,0,0,⟨#[]⟩,[]⟩,[]) (.returned (.agg #[.int .i64 0,.int .i64 0,.int .i64 0,.string ⟨#[]⟩,.slice none 0 0,.slice none 0 0])) ((bC w1 (w.heap.size+1) (.int .i64 0) (.int .i64 0) (.int .i64 0) (.string ⟨#[]⟩) (.slice none 0 0)).setCell ⟨w.heap.size+1,5,none⟩ (.slice none 0 0)):=⟨none,0,none,0,rfl,SB.nil _ _,SB.nil _ _,(aq h (Nat.le_succ _) _ _ _ _ _).setCell (Nat.le_succ _) _⟩
theorem l9(way:Int)(v:aa)(A:Option Addr)(c:Nat)(w:World)(hv:dj v)(hx:SA w v.l A c):Calls Tryz.prog 127 #[.int .i64 way,.agg #[.int .i64 v.kind,.int .i64 v.n,.int .i64 v.x,.string v.s,.slice A v.l.length c]] w (sJ w (au way v)):=by
 have B0:=xQ (ab (ab (af w) (.cells #[.int .i64 v.kind,.int .i64 v.n,.int .i64 v.x,.string v.s,.slice A v.l.length c] 27)) (.cells #[.int .i64 0,.int .i64 0,.int .i64 0,.string ⟨#[]⟩,.slice none 0 0,.slice none 0 0] 49));have P0:=xQ ((ah.new w 27 #[.int .i64 v.kind,.int .i64 v.n,.int .i64 v.x,.string v.s,.slice A v.l.length c]).alloc (.cells #[.int .i64 0,.int .i64 0,.int .i64 0,.string ⟨#[]⟩,.slice none 0 0,.slice none 0 0] 49));have P1:=xQ (ah.at (w:=w.alloc (.cells #[.int .i64 v.kind,.int .i64 v.n,.int .i64 v.x,.string v.s,.slice A v.l.length c] 27)) (g:=w.heap.size+1) (t:=49) (cs:=#[.int .i64 0,.int .i64 0,.int .i64 0,.string ⟨#[]⟩,.slice none 0 0,.slice none 0 0]) (by simp));have hok:=fun w0 h=>iY v A c w0 (by have:=hv.2.2.2.2;omega) hv.1 h;have hwo:=nI way;obtain⟨R,hR⟩: ∃R,R=au way v:=⟨_,rfl⟩;rw[←hR];obtain⟨V1,hV1⟩: ∃b,b=valOkP v:=⟨_,rfl⟩;obtain⟨V2,hV2⟩: ∃b,b=decide (1≤way∧way≤4):=⟨_,rfl⟩;rw[←hV1] at hok;rw[←hV2] at hwo;have H:=xQ (xP hR (xP hV1 hV2));have E:=xQ (xP hx (xP hok (xP hwo hv)));clear hx hok hwo hv hR hV1 hV2;obtain⟨W0,hW0⟩: ∃W0,W0=((w.alloc (.cells #[.int .i64 v.kind,.int .i64 v.n,.int .i64 v.x,.string v.s,.slice A v.l.length c] 27)).alloc (.cells #[.int .i64 0,.int .i64 0,.int .i64 0,.string ⟨#[]⟩,.slice none 0 0,.slice none 0 0] 49)):=⟨_,rfl⟩;go_enter Tryz.func127,Tryz.ntmps127;go_upto_region 1 with fail;rw[←hW0] at B0 P0 P1 ⊢;clear hW0;obtain⟨p0,p1,p2,p3,p4⟩:=P0.out.c5;go_wp2_with fail;refine(E.out.2.1 _ (E.out.1.below B0.out)).mono ?_;rintro e1 w1 ⟨rfl,hb1⟩;have P01:=P0.out.below hb1;have P11:=P1.out.below hb1;have B1:=xQ (al B0.out hb1);clear hb1;obtain⟨q0,q1,q2,q3,q4⟩:=P01.c5;obtain⟨r0,r1,r2,r3,r4,r5⟩:=P11.c6;obtain⟨rf0,rf1,rf2,rf3,rf4⟩:=P11.f5;have rf5:=P11.frozen 5;have hzq:=P01.lt;have hzr:=P11.lt;have PP:=xQ (xP P01 P11);clear P01 P11;cases V1
 ·go_wp2_with fail;refine bodyPost_ret (v:=.agg #[.int .i64 0,.int .i64 0,.int .i64 0,.string ⟨#[]⟩,.slice none 0 0,.slice none 0 0]) (by simp[results,Tryz.results127,go_sem, *]<;>rfl) rfl ?_;have hR:R=(⟨0,0,0,⟨#[]⟩,[]⟩,[]):=by rw[H.out.1];unfold au;rw[if_neg (by rw[←H.out.2.1];simp)];rfl
  rw[hR];exact mc B1.out
 ·go_wp2_with fail;refine(E.out.2.2.1 _).mono ?_;rintro e2 w2 ⟨rfl,hb2⟩;have P02:=PP.out.1.below hb2;have P12:=PP.out.2.below hb2;have B2:=xQ (al B1.out hb2);clear hb2;clear q0 q1 q2 q3 q4 r0 r1 r2 r3 r4 r5 rf0 rf1 rf2 rf3 rf4 rf5 p0 p1 p2 p3 p4;obtain⟨q0,q1,q2,q3,q4⟩:=P02.c5;obtain⟨r0,r1,r2,r3,r4,r5⟩:=P12.c6;obtain⟨rf0,rf1,rf2,rf3,rf4⟩:=P12.f5;have rf5:=P12.frozen 5;have hzq2:=P02.lt;have hzr2:=P12.lt;have PQ:=xQ (xP P02 P12);clear P02 P12;cases V2
  ·go_wp2_with fail;refine bodyPost_ret (v:=.agg #[.int .i64 0,.int .i64 0,.int .i64 0,.string ⟨#[]⟩,.slice none 0 0,.slice none 0 0]) (by simp[results,Tryz.results127,go_sem, *]<;>rfl) rfl ?_;have hR:R=(⟨0,0,0,⟨#[]⟩,[]⟩,[]):=by rw[H.out.1];unfold au;rw[if_neg (fun h=>by have h1:=H.out.2.2;rw[eq_comm,decide_eq_false_iff_not] at h1;exact h1 h.2)];rfl
   rw[hR];exact mc B2.out
  ·have hway:1≤way∧way≤4:=of_decide_eq_true H.out.2.2.symm;have hvok:valOkP v=true:=H.out.2.1.symm;have hR:R=((projP way v []).1,a7 (projP way v []).2):=by rw[H.out.1];unfold au;rw[if_pos ⟨hvok,hway⟩]
   obtain⟨T1,hT1⟩: ∃T1,T1=(projP way v []).1:=⟨_,rfl⟩;obtain⟨T2,hT2⟩: ∃T2,T2=(projP way v []).2:=⟨_,rfl⟩;have hbul:bV T2≤1048576:=by have h1:=ta (cU way v []);rw[←hT2] at h1;have h2:=E.out.2.2.2.2.2.2.2;have h3:=E.out.2.2.2.2.2.1;have h4:(1+bulkVal v)*(([]:List GStep).length+depG v)≤40001*4:=Nat.mul_le_mul (by omega) (by simp;omega);omega
   have hP:=tY way hway v [] A (some ⟨w2.heap.size,0,none⟩) c 0 (w2.alloc (.cells #[] 86)) hvok E.out.2.2.2.2.1 E.out.2.2.2.2.2.2.1 (by have:=E.out.2.2.2.2.2.1;simp;omega) E.out.2.2.2.1 ((E.out.1.below B2.out).below (ab (af _) _)) (SA.xp _ _);rw[←hT1,←hT2] at hP;rw[←hT1,←hT2] at hR;have HR:=xQ (xP hR hbul);have HP:=xQ hP;clear hP hR hbul hT1 hT2 hvok hway;go_wp2_with fail;refine HP.out.mono ?_;rintro e3 w3 ⟨A1,c1,v1,rfl,hss,hob,hb3⟩;obtain⟨A2,c2,rfl⟩:=hob.form;unfold ez;have P13:=(PQ.out.2.alloc (.cells #[] 86)).below hb3;have hb23:Below w.heap.size w w3:=al (ab B2.out _) hb3;have hz3:=hb3.size;have hz4:w2.heap.size<w3.heap.size:=by have h:=hz3;simp at h;omega
   have hsb1:SB w2.heap.size w3 T1.l A1 c1:=SB.mono (aW.sb hss) (by simp);have hsb2:SA w3 T2 A2 c2:=hob.sb.2.sa;obtain⟨W4,hW4⟩: ∃W4,W4=w3.alloc (.cells #[.int .i64 T1.kind,.int .i64 T1.n,.int .i64 T1.x,.string T1.s,.slice A1 T1.l.length c1] 27):=⟨_,rfl⟩;have XB:ah W4 w3.heap.size 27 #[.int .i64 T1.kind,.int .i64 T1.n,.int .i64 T1.x,.string T1.s,.slice A1 T1.l.length c1]:=hW4▸ah.new w3 _ _;have RB4:ah W4 (w.heap.size+1) 49 #[.int .i64 0,.int .i64 0,.int .i64 0,.string ⟨#[]⟩,.slice none 0 0,.slice none 0 0]:=hW4▸P13.alloc _;have hb4:Below w.heap.size w W4:=hW4▸ab hb23 _;have hsb4:SB w2.heap.size W4 T1.l A1 c1:=hW4▸hsb1.below (ab (af _) _);have hsa4:SA W4 T2 A2 c2:=hW4▸hsb2.below (ab (af _) _);have hgz:w3.heap.size<W4.heap.size:=XB.lt;have n1:w3.heap.size≠w.heap.size+1:=by omega
   have n2:w.heap.size+1≠w3.heap.size:=by omega
   have H4:=xQ (xP XB (xP RB4 (xP hb4 (xP hsb4 hsa4))));clear XB RB4 hb4 hsb4 hsa4 hsb1 hsb2 P13 hb23 hb3 hss hob hz3 hgz;go_upto_region 4 with fail;rw[←hW4];clear hW4;clear q0 q1 q2 q3 q4 r0 r1 r2 r3 r4 r5 rf0 rf1 rf2 rf3 rf4 rf5;obtain⟨x0,x1,x2,x3,x4⟩:=H4.out.1.c5;have hgx4:=H4.out.1.lt;go_region_held3(fun u=>(u.cell? ⟨w3.heap.size,0,none⟩=some (.int .i64 T1.kind)∧u.cell? ⟨w3.heap.size,1,none⟩=some (.int .i64 T1.n)∧u.cell? ⟨w3.heap.size,2,none⟩=some (.int .i64 T1.x)∧u.cell? ⟨w3.heap.size,3,none⟩=some (.string T1.s)∧u.cell? ⟨w3.heap.size,4,none⟩=some (.slice A1 T1.l.length c1))) (go_keep) (first|(go_at_call 185;(refine(jg T2 A2 c2 _ HR.out.2 (by first|exact H4.out.2.2.2.2|exact H4.out.2.2.2.2.drew)).mono ?_;rintro e5 w5 ⟨A5,c5,rfl,hsb5,hb5⟩;have H5:=xQ (xP (show ah w5 w3.heap.size 27 #[.int .i64 T1.kind,.int .i64 T1.n,.int .i64 T1.x,.string T1.s,.slice A1 T1.l.length c1] from(by first|exact H4.out.1.below hb5|exact H4.out.1.drew.below hb5)) (xP (show ah w5 (w.heap.size+1) 49 #[.int .i64 0,.int .i64 0,.int .i64 0,.string ⟨#[]⟩,.slice none 0 0,.slice none 0 0] from(by first|exact H4.out.2.1.below hb5|exact H4.out.2.1.drew.below hb5)) (xP (show Below w.heap.size w w5 from(by first|exact al H4.out.2.2.1 hb5|exact al H4.out.2.2.1.drew hb5)) (xP (show SB w2.heap.size w5 T1.l A1 c1 from(by first|exact H4.out.2.2.2.1.below hb5|exact SB.below (SB.vZ H4.out.2.2.2.1) hb5)) (show SB w2.heap.size w5 (a7 T2) A5 c5 from SB.mono hsb5 (by first|omega|(show w2.heap.size≤W4.heap.size;omega)))))));clear hsb5 hb5;obtain⟨y0,y1,y2,y3,y4⟩:=H5.out.1.c5;obtain⟨s0,s1,s2,s3,s4,s5⟩:=H5.out.2.1.c6;obtain⟨sf0,sf1,sf2,sf3,sf4⟩:=H5.out.2.1.f5;have sf5:=H5.out.2.1.frozen 5;have hy5:=H5.out.1.lt;have hs5:=H5.out.2.1.lt)));all_goals go_wp2_with fail
   all_goals refine bodyPost_ret (v:=.agg #[.int .i64 T1.kind,.int .i64 T1.n,.int .i64 T1.x,.string T1.s,.slice A1 T1.l.length c1,.slice A5 (a7 T2).length c5]) (by simp[results,Tryz.results127,go_sem, *]<;>rfl) rfl ?_
   all_goals rw[HR.out.1]
   all_goals exact va (B:=w2.heap.size) H5.out.2.2.1 (by omega) H5.out.2.2.2.1 H5.out.2.2.2.2
theorem sF(a b c d e f:Value)(w:World):(Instr.field 49 (.agg #[a,b,c,d,e,f]) 0).run Tryz.prog w=.ok (.agg #[a,b,c,d,e]) w:=by
 unfold Instr.field;simp[go_sem,asAgg,Tryz.underlying49]
theorem vh(a b c d e f:Value)(w:World):(Instr.field 49 (.agg #[a,b,c,d,e,f]) 1).run Tryz.prog w=.ok f w:=by
 unfold Instr.field;simp[go_sem,asAgg,Tryz.underlying49]
def sI(w:World)(t:aa)(e:Ending)(w':World):Prop:= ∃A c,e=.returned (.agg #[.int .i64 t.kind,.int .i64 t.n,.int .i64 t.x,.string t.s,.slice A t.l.length c])∧SB w.heap.size w' t.l A c∧Below w.heap.size w w'
theorem mB(way:Int)(v:aa)(A:Option Addr)(c:Nat)(w:World)(hv:dj v)(hx:SA w v.l A c):Calls Tryz.prog 70 #[.int .i64 way,.agg #[.int .i64 v.kind,.int .i64 v.n,.int .i64 v.x,.string v.s,.slice A v.l.length c]] w (sI w (au way v).1):=by
 have B0:=xQ (ab (ab (af w) (.cells #[.int .i64 v.kind,.int .i64 v.n,.int .i64 v.x,.string v.s,.slice A v.l.length c] 27)) (.cells #[.int .i64 0,.int .i64 0,.int .i64 0,.string ⟨#[]⟩,.slice none 0 0] 27));have P0:=xQ ((ah.new w 27 #[.int .i64 v.kind,.int .i64 v.n,.int .i64 v.x,.string v.s,.slice A v.l.length c]).alloc (.cells #[.int .i64 0,.int .i64 0,.int .i64 0,.string ⟨#[]⟩,.slice none 0 0] 27));have P1:=xQ (ah.at (w:=w.alloc (.cells #[.int .i64 v.kind,.int .i64 v.n,.int .i64 v.x,.string v.s,.slice A v.l.length c] 27)) (g:=w.heap.size+1) (t:=27) (cs:=#[.int .i64 0,.int .i64 0,.int .i64 0,.string ⟨#[]⟩,.slice none 0 0]) (by simp));have hp:=fun w0 h=>l9 way v A c w0 hv h;obtain⟨R,hR⟩: ∃R,R=au way v:=⟨_,rfl⟩;rw[←hR] at hp ⊢;have E:=xQ (xP hx hp);clear hx hp hv hR;obtain⟨W0,hW0⟩: ∃W0,W0=((w.alloc (.cells #[.int .i64 v.kind,.int .i64 v.n,.int .i64 v.x,.string v.s,.slice A v.l.length c] 27)).alloc (.cells #[.int .i64 0,.int .i64 0,.int .i64 0,.string ⟨#[]⟩,.slice none 0 0] 27)):=⟨_,rfl⟩;go_enter Tryz.func70,Tryz.ntmps70;go_upto_region 1 with fail;rw[←hW0] at B0 P0 P1 ⊢;clear hW0;obtain⟨p0,p1,p2,p3,p4⟩:=P0.out.c5;have hP1:=P1.out.lt;go_wp2_with fail;refine(E.out.2 _ (E.out.1.below B0.out)).mono ?_;rintro e1 w1 ⟨A1,c1,A2,c2,rfl,hs1,hs2,hb1⟩;have hfv:=sF (.int .i64 R.1.kind) (.int .i64 R.1.n) (.int .i64 R.1.x) (.string R.1.s) (.slice A1 R.1.l.length c1) (.slice A2 R.2.length c2) w1;have P11:=P1.out.below hb1;obtain⟨r0,r1,r2,r3,r4⟩:=P11.c5;obtain⟨rf0,rf1,rf2,rf3,rf4⟩:=P11.f5;have hzr:=P11.lt;have H1:=xQ (xP hs1 (al B0.out hb1));clear hs1 hs2 hb1 P11;go_wp2_with fail;refine bodyPost_ret (v:=.agg #[.int .i64 R.1.kind,.int .i64 R.1.n,.int .i64 R.1.x,.string R.1.s,.slice A1 R.1.l.length c1]) (by simp[results,Tryz.results70,go_sem, *]<;>rfl) rfl ?_;refine⟨A1,c1,rfl,?_,?_⟩;·exact SB.bu H1.out.1 (g:=w.heap.size+1) (by omega) (by omega) (.int .i64 R.1.kind) (.int .i64 R.1.n) (.int .i64 R.1.x) (.string R.1.s) (.slice A1 R.1.l.length c1)
 ·exact aq H1.out.2 (g:=w.heap.size+1) (by omega) (.int .i64 R.1.kind) (.int .i64 R.1.n) (.int .i64 R.1.x) (.string R.1.s) (.slice A1 R.1.l.length c1)
theorem bO(x a b:Int)(w:World):Calls Tryz.prog 74 #[.int .i64 x,.int .i64 a,.int .i64 b] w (jG w (.bool (decide (a≤x∧x≤b)))):=by
 obtain⟨r,hr⟩: ∃r,r=decide (a≤x∧x≤b):=⟨_,rfl⟩;rw[←hr];have R:=xQ hr;clear hr;by_cases h1:a≤x;·by_cases h2:x≤b;all_goals go_enter Tryz.func74,Tryz.ntmps74;go_wp2_with fail;go_ret;exact⟨by rw[R.out];simp[h1,h2],rfl⟩
 ·go_enter Tryz.func74,Tryz.ntmps74;go_wp2_with fail;go_ret;exact⟨by rw[R.out,decide_eq_false (by omega)];rfl,rfl⟩
theorem pe(way:Int)(hw:1≤way∧way≤4)(w:World):Calls Tryz.prog 139 #[.int .i64 way] w (jG w (.bool (decide (way=2)))):=by
 have h4:way=1∨way=2∨way=3∨way=4:=by omega
 clear hw;rcases h4 with rfl|rfl|rfl|rfl;all_goals go_enter Tryz.func139,Tryz.ntmps139;go_wp2_with fail;go_ret;exact⟨rfl,rfl⟩
theorem jK(way:Int)(hw:1≤way∧way≤4)(w:World):Calls Tryz.prog 138 #[.int .i64 way] w (jG w (.bool (decide (way=1∨way=4)))):=by
 have h4:way=1∨way=2∨way=3∨way=4:=by omega
 clear hw;rcases h4 with rfl|rfl|rfl|rfl;all_goals go_enter Tryz.func138,Tryz.ntmps138;go_wp2_with fail;go_ret;exact⟨rfl,rfl⟩
theorem iZ(way:Int)(w:World):Calls Tryz.prog 18 #[.int .i64 way] w (jG w (.bool (decide (1≤way∧way≤4)))):=by
 obtain⟨D,hD⟩: ∃D,D=decide (1≤way∧way≤4):=⟨_,rfl⟩;rw[←hD];have h0:=bO way 1 4;rw[←hD] at h0;clear hD;go_enter Tryz.func18,Tryz.ntmps18;go_wp2_with fail;refine(h0 _).mono ?_;rintro e w1 ⟨rfl,rfl⟩;go_wp2_with fail;go_ret;exact⟨rfl,rfl⟩
def oC(a b:Bool):Int:=if a then-1 else if b then 1 else 0
theorem nC(a b:Bool)(w:World):Calls Tryz.prog 196 #[.bool a,.bool b] w (jG w (.int .i64 (oC a b))):=by
 cases a<;>cases b;all_goals go_enter Tryz.func196,Tryz.ntmps196;go_wp2_with fail;go_ret;exact⟨rfl,rfl⟩
def xb(x y:Int):Int:=if x=0 then y else x
theorem vP(x y:Int)(b:Nat)(c:Nat)(w:World)(h0:w.cell? ⟨b,0,none⟩=some (.int .i64 x))(h1:w.cell? ⟨b,1,none⟩=some (.int .i64 y)):Calls Tryz.prog 98 #[.slice (some ⟨b,0,none⟩) 2 c] w (jG w (.int .i64 (xb x y))):=by
 obtain⟨r,hr⟩: ∃r,r=xb x y:=⟨_,rfl⟩;rw[←hr];unfold xb at hr;by_cases hx:x=0
 ·subst hx;rw[if_pos rfl] at hr;subst hr;by_cases hy:r=0
  ·subst hy;go_enter Tryz.func98,Tryz.ntmps98;go_wp2_with fail;go_loopg[8] 2 (fun gk i wr=> ∃k:Nat,k≤2∧i=.int .i64 (k:Int)∧gk=2-k∧wr=w);case atStart=>exact⟨0,by omega,rfl,by omega,rfl⟩
   case round=>
    obtain⟨k,hk,rfl,rfl,rfl⟩:=hrel;have hk3:k=0∨k=1∨k=2:=by omega
    clear hk;rcases hk3 with rfl|rfl|rfl
    ·go_wp2_with fail;go_roundg 1;case measure=>omega
     case rel=>exact⟨1,by omega,rfl,rfl,rfl⟩
    ·go_wp2_with fail;go_roundg 0;case measure=>omega
     case rel=>exact⟨2,by omega,rfl,rfl,rfl⟩
    ·go_wp2_with fail;go_ret;exact⟨rfl,rfl⟩
  ·have hyb:(r != 0)=true:=by simpa using hy
   clear hy;go_enter Tryz.func98,Tryz.ntmps98;go_wp2_with fail;go_loopg[8] 2 (fun gk i wr=> ∃k:Nat,k≤1∧i=.int .i64 (k:Int)∧gk=2-k∧wr=w);case atStart=>exact⟨0,by omega,rfl,by omega,rfl⟩
   case round=>
    obtain⟨k,hk,rfl,rfl,rfl⟩:=hrel;have hk3:k=0∨k=1:=by omega
    clear hk;rcases hk3 with rfl|rfl
    ·go_wp2_with fail;go_roundg 1;case measure=>omega
     case rel=>exact⟨1,by omega,rfl,rfl,rfl⟩
    ·go_wp2_with fail;go_ret;exact⟨rfl,rfl⟩
 ·rw[if_neg hx] at hr;subst hr;have hxb:(r != 0)=true:=by simpa using hx
  clear hx;go_enter Tryz.func98,Tryz.ntmps98;go_wp2_with fail;go_loopg[8] 2 (fun gk i wr=>i=.int .i64 0∧gk=2∧wr=w);case atStart=>exact⟨rfl,rfl,rfl⟩
  case round=>obtain⟨rfl,rfl,rfl⟩:=hrel;go_wp2_with fail;go_ret;exact⟨rfl,rfl⟩
def eO(a b:ag):Int:=xb (oC (cP a.p b.p) (cP b.p a.p)) (Lib.compareInt a.kind b.kind)
theorem cA(a b:ag)(A A':Option Addr)(c c':Nat)(w:World)(hA:SA w a.p A c)(hB:SA w b.p A' c'):Calls Tryz.prog 157 #[.agg #[.int .i64 a.kind,.slice A a.p.length c],.agg #[.int .i64 b.kind,.slice A' b.p.length c']] w (cd w (.int .i64 (eO a b))):=by
 have B0:=xQ (ab (ab (af w) (.cells #[.int .i64 a.kind,.slice A a.p.length c] 62)) (.cells #[.int .i64 b.kind,.slice A' b.p.length c'] 62));have P0:=xQ ((ah.new w 62 #[.int .i64 a.kind,.slice A a.p.length c]).alloc (.cells #[.int .i64 b.kind,.slice A' b.p.length c'] 62));have P1:=xQ (ah.at (w:=w.alloc (.cells #[.int .i64 a.kind,.slice A a.p.length c] 62)) (g:=w.heap.size+1) (t:=62) (cs:=#[.int .i64 b.kind,.slice A' b.p.length c']) (by simp));have E:=xQ (xP (hA.below B0.out) (hB.below B0.out));clear hA hB;obtain⟨r,hr⟩: ∃r,r=eO a b:=⟨_,rfl⟩;rw[←hr];have HR:=xQ hr;clear hr;go_enter Tryz.func157,Tryz.ntmps157;go_wp2_with fail;go_region_held3(fun u=>u.cell? ⟨w.heap.size,0,none⟩=some (.int .i64 a.kind)∧u.cell? ⟨w.heap.size,1,none⟩=some (.slice A a.p.length c)∧u.cell? ⟨w.heap.size+1,0,none⟩=some (.int .i64 b.kind)∧u.cell? ⟨w.heap.size+1,1,none⟩=some (.slice A' b.p.length c')) (go_keep) (first|(go_at_call 215;(have hfirst:=HQ1.out;clear hfirst;refine(fY b.p a.p A' A c' c _ (by first|exact E.out.2.drewN _|exact(E.out.2.drewN _).drewN _|exact(E.out.2.drew).drewN _) (by first|exact E.out.1.drewN _|exact(E.out.1.drewN _).drewN _|exact(E.out.1.drew).drewN _)).mono ?_;rintro e w2 ⟨rfl,nq2,rfl⟩;have HQ2:=xQ True.intro))|(go_at_call 215;(refine(fY a.p b.p A A' c c' _ (by first|exact E.out.1.drew|exact E.out.1|exact E.out.1.drewN _) (by first|exact E.out.2.drew|exact E.out.2|exact E.out.2.drewN _)).mono ?_;rintro e w1 ⟨rfl,nq1,rfl⟩;have HQ1:=xQ True.intro))|(go_at_call 196;(refine(nC _ _ _).mono ?_;rintro e w3 ⟨rfl,rfl⟩))|(go_at_call 99;(refine(Tryz.cmp_Compare_int _ _ _).mono ?_;rintro e w4 ⟨rfl,rfl⟩))|(go_at_call 98;(refine(vP (oC (cP a.p b.p) (cP b.p a.p)) (Lib.compareInt a.kind b.kind) _ _ _ (by first|exact(ah.new _ _ _).cell 0|exact(ah.at (by simp)).cell 0) (by first|exact(ah.new _ _ _).cell 1|exact(ah.at (by simp)).cell 1)).mono ?_;rintro e w5 ⟨rfl,rfl⟩)));all_goals go_wp2_with fail;go_ret;exact⟨by rw[HR.out];rfl,by first|exact ab (below_drewN B0.out _) _|exact ab (below_drewN (below_drewN B0.out _) _) _⟩
section
theorem nJ(x y:Int):Lib.compareInt x y<0↔x<y:=by
 unfold Lib.compareInt;split;·rename_i h;simp[h]
 ·split;·rename_i h1 h2;simp;omega
  ·rename_i h1 h2;simp;omega
theorem gz(a b:ag):decide (eO a b<0)=ak a b:=by
 unfold eO xb oC ak;by_cases e:a.p=b.p;·rw[if_pos e,e,ew.irr];simp only[Bool.false_eq_true,if_false,if_true];rw[Bool.eq_iff_iff,decide_eq_true_iff,decide_eq_true_iff,nJ]
 ·rw[if_neg e];rcases ew.tot _ _ e with h|h;·rw[h];simp
  ·rw[ew.pH _ _ h,h];simp
theorem tf{α:Type}(P R:List α)(x y:α):((P++y::x::R).set (P.length+1) y).set P.length x=P++x::y::R:=by
 rw[List.set_append_right _ _ (by omega),List.set_append_right _ _ (by omega)];simp
theorem ko{α:Type}(P R:List α)(x y:α)(h:P.length<(P++y::x::R).length):(P++y::x::R)[P.length]=y:=by
 simp
theorem j9{α:Type}(P R:List α)(x y:α)(h:P.length+1<(P++y::x::R).length):(P++y::x::R)[P.length+1]=x:=by
 rw[List.getElem_append_right (by omega)];simp
section
variable {α : Type} [aG α]
theorem aB.stored{w:World}{base:Nat}{t:TypeId}{g n c:Nat}{l:List α}{S:Nat→Prop}(h:aB w base t (.slice (some ⟨g,0,none⟩) n c) l S){i:Nat}(hi:i<l.length){a:α}{cs:List Value}(hr:RS w S a cs)(hg: ∀b,S b→b≠g):aB (bg w g (i*aG.wd α) cs) base t (.slice (some ⟨g,0,none⟩) n c) (l.set i a) S:=by
 obtain⟨F,h1,h2⟩:=h;obtain⟨F',h3,h4⟩:=hr;obtain⟨F1,F2,F3,hF,h5⟩:=h1.stored hi h3 (fun hm=>hg g (h4 g hm) rfl);subst hF;refine⟨_,h5,fun b hb=> ?_⟩;simp only[List.mem_append] at hb;rcases hb with hb|hb|hb;·exact h2 b (by simp[hb])
 ·exact h4 b hb
 ·exact h2 b (by simp[hb])
end
def bc(base:Nat)(w:World)(g c:Nat)(l:List ag):Prop:=aB w base 62 (.slice (some ⟨g,0,none⟩) l.length c) l (fun b=>(b≠g∧base≤b)∧b<w.heap.size)
theorem bc.below{base:Nat}{w w':World}{g c:Nat}{l:List ag}(h:bc base w g c l)(hb:Below w.heap.size w w'):bc base w' g c l:=aB.mono (aB.an h hb fun b hb=>hb.2) fun b h=>⟨h.1,Nat.lt_of_lt_of_le h.2 hb.size⟩
theorem bc.lt{base:Nat}{w:World}{g c:Nat}{l:List ag}(h:bc base w g c l):g<w.heap.size:=(aB.ar h g rfl).2
theorem bc.sb{base:Nat}{w:World}{g c:Nat}{l:List ag}(h:bc base w g c l):SB base w l (some ⟨g,0,none⟩) c:=by
 have hlt:=aB.ar h g rfl;obtain⟨_,h2⟩:=aB.ss h w (fun b=>base≤b∧b<w.heap.size) (fun _ _=>rfl) (fun b hb=>by rcases hb with hb|hb;(·simp only[Value.ownBlock,Option.some.injEq] at hb;exact⟨by omega,by omega⟩);·exact⟨hb.1.2,hb.2⟩);exact h2
theorem bc.swap{base:Nat}{w:World}{g c:Nat}{P R:List ag}{x y:ag}{Ax Ay:Option Addr}{cx cy:Nat}(h:bc base w g c (P++y::x::R))(hx:RS w (fun b=>(b≠g∧base≤b)∧b<w.heap.size) x [.int .i64 x.kind,.slice Ax x.p.length cx])(hy:RS w (fun b=>(b≠g∧base≤b)∧b<w.heap.size) y [.int .i64 y.kind,.slice Ay y.p.length cy]):bc base (bg (bg w g ((P.length+1)*2) [.int .i64 y.kind,.slice Ay y.p.length cy]) g (P.length*2) [.int .i64 x.kind,.slice Ax x.p.length cx]) g c (P++x::y::R):=by
 have hlen:(P++y::x::R).length=(P++x::y::R).length:=by simp
 have h1:=aB.stored (i:=P.length+1) h (by simp) hy (fun b hb=>hb.1.1);have hk: ∀b,((b≠g∧base≤b)∧b<w.heap.size)→(bg w g ((P.length+1)*2) [.int .i64 y.kind,.slice Ay y.p.length cy]).heap[b]? =w.heap[b]? :=fun b hb=>bp g _ w _ b hb.1.1;have hx':RS (bg w g ((P.length+1)*2) [.int .i64 y.kind,.slice Ay y.p.length cy]) (fun b=>(b≠g∧base≤b)∧b<w.heap.size) x [.int .i64 x.kind,.slice Ax x.p.length cx]:=RS.an hx hk (fun b hb=>hb);have h2:=aB.stored (i:=P.length) h1 (by simp) hx' (fun b hb=>hb.1.1);rw[tf] at h2;rw[hlen] at h2;exact aB.mono h2 fun b hb=>⟨hb.1,by rw[ca,ca];exact hb.2⟩
theorem bc.at{base:Nat}{w:World}{g c:Nat}{l:List ag}(h:bc base w g c l){i:Nat}(hi:i<l.length): ∃A' c',RS w (fun b=>(b≠g∧base≤b)∧b<w.heap.size) l[i] [.int .i64 l[i].kind,.slice A' l[i].p.length c']∧SA w l[i].p A' c'∧w.cell? ⟨g,i*2,none⟩=some (.int .i64 l[i].kind)∧w.cell? ⟨g,i*2+1,none⟩=some (.slice A' l[i].p.length c'):=by
 obtain⟨F,h1,h2⟩:=h;obtain⟨F',cs,hr,hs,hc⟩:=h1.at hi;obtain⟨A',c',rfl,hI,hsl⟩:=hr;exact⟨A',c',⟨F',⟨A',c',rfl,hI,hsl⟩,fun b hb=>h2 b (hs b hb)⟩,⟨F',hsl,fun b hb=>(h2 b (hs b hb)).2⟩,hc.c0,hc.c1⟩
theorem bc.facts{base:Nat}{w:World}{g c:Nat}{l:List ag}(h:bc base w g c l){i:Nat}(hi:i<l.length):w.frozen? ⟨g,i*2,none⟩=false∧w.frozen? ⟨g,i*2+1,none⟩=false:=by
 obtain⟨F,h1,h2⟩:=h;have f0:=(h1.facts hi (show 0<aG.wd ag by decide)).2;have f1:=(h1.facts hi (show 1<aG.wd ag by decide)).2;exact⟨f0,f1⟩
def dT(T q D:List ag)(x:ag)(m:Nat):List ag:=T++(q.take m++x::q.drop m)++D
theorem iP(T q D:List ag)(x:ag){m:Nat}(h:m<q.length):dT T q D x (m+1)=(T++q.take m)++q[m]::x::(q.drop (m+1)++D):=by
 unfold dT;rw[List.take_succ_eq_append_getElem h];simp only[List.append_assoc,List.cons_append,List.nil_append,List.singleton_append]
theorem kU(T q D:List ag)(x:ag){m:Nat}(h:m<q.length):(T++q.take m)++x::q[m]::(q.drop (m+1)++D)=dT T q D x m:=by
 unfold dT;rw[List.drop_eq_getElem_cons h];simp only[List.append_assoc,List.cons_append,List.nil_append,List.singleton_append]
theorem dR(w:World)(g off:Nat)(cs:List Value):Kept [g] w (bg w g off cs):=by
 have h:=iy g cs w off;exact⟨h.1,h.2.1,h.2.2,by rw[ca];omega,fun b _ hb=>bp g cs w off b (by simpa using hb)⟩
theorem lB(l:List ag)(a b:Nat)(hab:a<b)(hb:b≤l.length)(hl:l.length≤1048576)(base g c:Nat)(w:World)(h:bc base w g c l)(hcf: ∀(a:Array Value)(w:World),(callFunc 157 a).run Tryz.prog w=.ok (.enter 157 a) w):Calls Tryz.prog 253 #[.slice (some ⟨g,0,none⟩) l.length c,.int .i64 (a:Int),.int .i64 (b:Int),.func (.func 157) #[] #[]] w (fun e w'=>e=.returned (.tuple #[])∧bc base w' g c (l.take a++ao ak [] ((l.drop a).take (b-a))++l.drop b)∧Kept [g] w w'):=by
 have HR:=xQ h;clear h;have ha1:IntKind.i64.wrap ((a:Int)+1)=((a+1:Nat):Int):=by rw[IntKind.wrap_i64];omega
 have hcfg1:l.take a++ao ak [] ((l.drop a).take (a+1-a))++l.drop (a+1)=l:=by rw[show a+1-a=1 by omega,List.drop_eq_getElem_cons (show a<l.length by omega)];simp only[List.take_succ_cons,List.take_zero,ao,bQ,cI,List.reverse_nil,List.reverse_cons,List.nil_append];rw[List.append_assoc,List.singleton_append,←List.drop_eq_getElem_cons (show a<l.length by omega),List.take_append_drop]
 have HC:=xQ hcfg1;clear hcfg1;go_enter Tryz.func253,Tryz.ntmps253;go_wp2_with fail;go_loopg[8] (b-(a+1)) (fun gk s8 wr=> ∃i:Nat,s8=.int .i64 (i:Int)∧a<i∧i≤b∧gk=b-i∧bc base wr g c (l.take a++ao ak [] ((l.drop a).take (i-a))++l.drop i)∧Kept [g] w wr);case atStart=>exact⟨a+1,by first|rfl|go_num,by omega,by omega,rfl,by rw[HC.out];exact HR.out,Kept.refl _ _⟩
 case round=>
  obtain⟨i,rfl,hai,hib,rfl,hrow,hkept⟩:=hrel;by_cases hlt:i<b
  ·have hil:i<l.length:=by omega
   obtain⟨q,hq⟩: ∃q,q=ao ak [] ((l.drop a).take (i-a)):=⟨_,rfl⟩;obtain⟨x,hx⟩: ∃x,x=l[i]:=⟨_,rfl⟩;obtain⟨T,hT⟩: ∃T,T=l.take a:=⟨_,rfl⟩;obtain⟨D,hD⟩: ∃D,D=l.drop (i+1):=⟨_,rfl⟩;have hql:q.length=i-a:=by rw[hq,ff,List.length_take,List.length_drop];omega
   have hTl:T.length=a:=by rw[hT,List.length_take];omega
   have hrow0:bc base wr g c (dT T q D x q.length):=by(have e:dT T q D x q.length=l.take a++ao ak [] ((l.drop a).take (i-a))++l.drop i:=by unfold dT;rw[List.take_length,List.drop_length,←hq,←hT,hD,hx,List.drop_eq_getElem_cons hil];simp);rw[e];exact hrow
   have hnext: ∀m,dT T q D x m=l.take a++(q.take m++[x]++q.drop m)++l.drop (i+1):=fun m=>by unfold dT;rw[hT,hD];simp
   have hins:ao ak [] ((l.drop a).take (i+1-a))=bQ ak q x:=by(have h1:i-a<(l.drop a).length:=by rw[List.length_drop];omega);rw[show i+1-a=i-a+1 by omega,List.take_succ_eq_append_getElem h1,eK,←hq,hx];congr 1;rw[List.getElem_drop];congr 1;omega
   have hlenc: ∀m,m≤q.length→(dT T q D x m).length=l.length:=fun m hm=>by rw[hnext m];simp only[List.length_append,List.length_take,List.length_drop,List.length_singleton];omega
   have HF:=xQ (xP hq (xP hnext (xP hins (xP hql (xP hTl hlenc)))));clear hq hnext hins hx hT hD hTl hlenc;have HK:=xQ (xP hrow0 hkept);clear hrow hrow0 hkept;have HL:=xQ hql;clear hql;have hi1:(i:Int)<b:=by omega
   go_wp2_with fail;rename World=>wo;go_loopg[9] q.length (fun gk s9 wx=>s9=.int .i64 ((a+gk:Nat):Int)∧gk≤q.length∧Hid (∀k(h:k<q.length),gk≤k→ak x q[k]=true)∧bc base wx g c (dT T q D x gk)∧Kept [g] w wx);case atStart=>exact⟨by rw[HL.out,show a+(i-a)=i by omega],by omega,fun k h h2=>by omega,HK.out.1,HK.out.2⟩
   case round=>
    obtain⟨rfl,hgk,hLt,hrow,hkept⟩:=hrel;rcases Nat.eq_zero_or_pos gk with rfl|hpos
    ·have hend:dT T q D x 0=l.take a++ao ak [] ((l.drop a).take (i+1-a))++l.drop (i+1):=by rw[HF.out.2.1,HF.out.2.2.1,cC ak x _ q 0 rfl (by omega) (fun k h _=>hLt.out k h (by omega)) (fun h h0=>by omega)]
     rw[hend] at hrow;have HW:=xQ (xP hrow hkept);clear hLt hrow hkept hend;have hj0: ¬((a:Int)<(a:Int)):=by omega
     go_wp2_with fail;go_quiet(fail);go_wp2_with fail;go_roundg(b-(i+1));case measure=>omega
     case rel=>exact⟨i+1,by first|rfl|go_num,by omega,by omega,rfl,by first|exact HW.out.1|exact HW.out.1.below (below_drewN (af _) _),by first|exact HW.out.2|exact HW.out.2.trans (Kept.ay (below_drewN (af _) _))⟩
    ·obtain⟨m,rfl⟩: ∃m,gk=m+1:=⟨gk-1,by omega⟩;have hm:m<q.length:=by omega
     have hlc:=HF.out.2.2.2.2.2 (m+1) (by omega);rw[iP T q D x hm] at hrow hlc;obtain⟨y,hy⟩: ∃y,y=q[m]:=⟨_,rfl⟩;rw[←hy] at hrow hlc;obtain⟨P,hP⟩: ∃P,P=T++q.take m:=⟨_,rfl⟩;obtain⟨R,hR⟩: ∃R,R=q.drop (m+1)++D:=⟨_,rfl⟩;rw[←hP,←hR] at hrow hlc;obtain⟨K,hK⟩: ∃K,K=a+m:=⟨_,rfl⟩;have hPl:P.length=K:=by rw[hP,hK,List.length_append,List.length_take,HF.out.2.2.2.2.1];omega
     obtain⟨Ax,cx,hRx,hSx,x0,x1⟩:=hrow.at (i:=P.length+1) (by simp);obtain⟨Ay,cy,hRy,hSy,y0,y1⟩:=hrow.at (i:=P.length) (by simp);have fx:=hrow.facts (i:=P.length+1) (by simp);have fy:=hrow.facts (i:=P.length) (by simp);rw[j9] at hRx hSx x0 x1;rw[ko] at hRy hSy y0 y1;have hKl:K+1<l.length:=by rw[←hlc,←hPl];simp
     rw[hPl] at x0 x1 y0 y1 fx fy;obtain⟨fx0,fx1⟩:=fx;obtain⟨fy0,fy1⟩:=fy;obtain⟨r,hr⟩: ∃r,r=eO x y:=⟨_,rfl⟩;have hlt2:=gz x y;rw[←hr] at hlt2;have hgl:=hrow.lt;have HX:=xQ (xP hr (xP hlt2 (xP hPl (xP hK (xP hP (xP hR hy))))));clear hr hlt2 hPl hP hR hy hlc;have HS:=xQ (xP hSx (xP hSy (xP hRx hRy)));clear hSx hSy hRx hRy;have HW:=xQ (xP hLt (xP hrow hkept));clear hLt hrow hkept;have hk1:(a:Int)<(K:Int)+1:=by omega
     have hk2:IntKind.i64.wrap ((K:Int)+1-1)=(K:Int):=by rw[IntKind.wrap_i64];omega
     have hk6:IntKind.i64.wrap (K:Int)=(K:Int):=by rw[IntKind.wrap_i64];omega
     have hk3:(K:Int)+1<l.length:=by omega
     have hk3':(K:Int)<l.length:=by omega
     have hk4:(0:Int)≤K:=by omega
     have hk5:(0:Int)≤(K:Int)+1:=by omega
     have hk7:((K:Int)+1).toNat=K+1:=by omega
     rw[show a+(m+1)=K+1 by omega];clear hK;by_cases hneg:r<0
     ·go_wp2_with fail;go_region_held3(fun u=>u.cell? ⟨g,(K+1)*2,none⟩=some (.int .i64 x.kind)∧u.cell? ⟨g,(K+1)*2+1,none⟩=some (.slice Ax x.p.length cx)∧u.cell? ⟨g,K*2,none⟩=some (.int .i64 y.kind)∧u.cell? ⟨g,K*2+1,none⟩=some (.slice Ay y.p.length cy)) (go_keep) (first|(go_at_call 157;(refine(cA x y Ax Ay cx cy _ (by first|exact HS.out.1|exact HS.out.1.drew) (by first|exact HS.out.2.1|exact HS.out.2.1.drew)).mono ?_;rintro e w3 ⟨rfl,hb3⟩;rw[←HX.out.1];have HB3:=xQ (xP (show Below wr.heap.size wr w3 from(by first|exact hb3|exact al (af wr).drew hb3)) True.intro);have zx0:=(HB3.out.1.cell (p:=⟨g,_,none⟩) hgl).trans x0;have zx1:=(HB3.out.1.cell (p:=⟨g,_,none⟩) hgl).trans x1;have zy0:=(HB3.out.1.cell (p:=⟨g,_,none⟩) hgl).trans y0;have zy1:=(HB3.out.1.cell (p:=⟨g,_,none⟩) hgl).trans y1;have gx0:=(HB3.out.1.frozen (p:=⟨g,_,none⟩) hgl).trans fx0;have gx1:=(HB3.out.1.frozen (p:=⟨g,_,none⟩) hgl).trans fx1;have gy0:=(HB3.out.1.frozen (p:=⟨g,_,none⟩) hgl).trans fy0;have gy1:=(HB3.out.1.frozen (p:=⟨g,_,none⟩) hgl).trans fy1;clear hb3)))
      all_goals
       go_wp2_with fail;go_region_law(fail)
       all_goals
        go_wp2_with fail;go_roundg m;case measure=>omega
        case rel=>
         have hwx:RS w3 (fun b=>(b≠g∧base≤b)∧b<w3.heap.size) x [.int .i64 x.kind,.slice Ax x.p.length cx]:=RS.an HS.out.2.2.1 (fun b hb=>HB3.out.1.block b hb.2) (fun b hb=>⟨hb.1,Nat.lt_of_lt_of_le hb.2 HB3.out.1.size⟩);have hwy:RS w3 (fun b=>(b≠g∧base≤b)∧b<w3.heap.size) y [.int .i64 y.kind,.slice Ay y.p.length cy]:=RS.an HS.out.2.2.2 (fun b hb=>HB3.out.1.block b hb.2) (fun b hb=>⟨hb.1,Nat.lt_of_lt_of_le hb.2 HB3.out.1.size⟩);have hsw:=bc.swap (HW.out.2.1.below HB3.out.1) hwx hwy;rw[HX.out.2.2.1] at hsw;have e:=kU T q D x hm;rw[←HX.out.2.2.2.2.2.2,←HX.out.2.2.2.2.1,←HX.out.2.2.2.2.2.1] at e;rw[e] at hsw;refine⟨by rw[←HX.out.2.2.2.1]<;>first|rfl|go_num,by omega,fun k h hk=> ?_,bc.below hsw (af _).drew,(HW.out.2.2.trans ((Kept.ay HB3.out.1).trans ((dR w3 g ((K+1)*2) [.int .i64 y.kind,.slice Ay y.p.length cy]).trans (dR _ g (K*2) [.int .i64 x.kind,.slice Ax x.p.length cx])))).trans (Kept.ay (af _).drew)⟩;rcases Nat.lt_or_ge m k with h7|h7;·exact HW.out.1.out k h (by omega)
         ·have h8:k=m:=by omega
          subst h8;rw[←HX.out.2.2.2.2.2.2,←HX.out.2.1];exact decide_eq_true hneg
     ·go_wp2_with fail;go_region_held3(fun u=>u.cell? ⟨g,(K+1)*2,none⟩=some (.int .i64 x.kind)∧u.cell? ⟨g,(K+1)*2+1,none⟩=some (.slice Ax x.p.length cx)∧u.cell? ⟨g,K*2,none⟩=some (.int .i64 y.kind)∧u.cell? ⟨g,K*2+1,none⟩=some (.slice Ay y.p.length cy)) (go_keep) (first|(go_at_call 157;(refine(cA x y Ax Ay cx cy _ (by first|exact HS.out.1|exact HS.out.1.drew) (by first|exact HS.out.2.1|exact HS.out.2.1.drew)).mono ?_;rintro e w3 ⟨rfl,hb3⟩;rw[←HX.out.1];have HB3:=xQ (xP (show Below wr.heap.size wr w3 from(by first|exact hb3|exact al (af wr).drew hb3)) True.intro);have zx0:=(HB3.out.1.cell (p:=⟨g,_,none⟩) hgl).trans x0;have zx1:=(HB3.out.1.cell (p:=⟨g,_,none⟩) hgl).trans x1;have zy0:=(HB3.out.1.cell (p:=⟨g,_,none⟩) hgl).trans y0;have zy1:=(HB3.out.1.cell (p:=⟨g,_,none⟩) hgl).trans y1;have gx0:=(HB3.out.1.frozen (p:=⟨g,_,none⟩) hgl).trans fx0;have gx1:=(HB3.out.1.frozen (p:=⟨g,_,none⟩) hgl).trans fx1;have gy0:=(HB3.out.1.frozen (p:=⟨g,_,none⟩) hgl).trans fy0;have gy1:=(HB3.out.1.frozen (p:=⟨g,_,none⟩) hgl).trans fy1;clear hb3)))
      all_goals
       go_wp2_with fail;go_roundg(b-(i+1));case measure=>omega
       case rel=>
        refine⟨i+1,by first|rfl|go_num,by omega,by omega,rfl,?_,HW.out.2.2.trans (Kept.ay HB3.out.1)⟩;have hend:P++y::x::R=l.take a++ao ak [] ((l.drop a).take (i+1-a))++l.drop (i+1):=by have h1:=iP T q D x hm;rw[←HX.out.2.2.2.2.2.2,←HX.out.2.2.2.2.1,←HX.out.2.2.2.2.2.1] at h1;rw[←h1,HF.out.2.1,HF.out.2.2.1,cC ak x _ q (m+1) rfl (by omega) (fun k h hk=>HW.out.1.out k h hk) (fun h h0=>by simp only[Nat.add_sub_cancel];rw[←HX.out.2.2.2.2.2.2,←HX.out.2.1];simp;omega)]
        rw[←hend];exact HW.out.2.1.below HB3.out.1
  ·have e:i=b:=by omega
   rw[e] at hrow;have HW:=xQ (xP hrow hkept);clear hrow hkept e;have hi2: ¬(i:Int)<b:=by omega
   go_wp2_with fail;refine bodyPost_end (v:=.tuple #[]) (by simp[results,Tryz.results253,go_sem]) rfl ?_;exact⟨rfl,by have h:=HW.out.1;rwa[List.append_assoc] at h,HW.out.2⟩
end
end Go.Proofs.YtodpdjehjllhdaaGreatDoor
