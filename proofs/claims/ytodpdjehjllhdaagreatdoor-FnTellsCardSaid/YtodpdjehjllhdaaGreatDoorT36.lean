/- Part of a proof: contracts and plain laws. -/
import Derived.Test.YtodpdjehjllhdaaGreatDoorT35
set_option linter.unusedVariables false
set_option linter.unusedSimpArgs false
set_option maxRecDepth 100000
set_option maxHeartbeats 20000000
namespace Go.Proofs.YtodpdjehjllhdaaGreatDoor
open Go.RowKit
mutual
def countG : aa → Nat
  | ⟨_, _, _, _, l⟩ => 1 + countL l
def countL : List aa → Nat
  | [] => 0
  | a :: l => countG a + countL l
end
mutual
theorem paths_count : ∀ (v : aa) (p : List GStep), (pathsG p v).length = countG v
  | ⟨k, n, x, s, l⟩, p => by rw [pathsG, countG, List.length_cons, pathsL_count l]; omega
theorem pathsL_count : ∀ (l : List aa) (p : List GStep) (v : aa) (i : Nat), (pathsL p v i l).length = countL l
  | [], _, _, _ => by simp [pathsL, countL]
  | a :: l, p, v, i => by rw [pathsL, countL, List.length_append, paths_count a, pathsL_count l]
end
def kA(way:Int)(v:aa):List (List GStep):=(pathsG [] v).filter fun p=>((if valOkP v=true∧1≤way∧way≤4 then aL way v p else none).isSome&& !qQ (aG way v).2 p)
theorem tV{l:List ag}{p:List GStep}(h:qQ l p=false): ∀L∈l,¬p <+: L.p:=by
 intro L hL hp;unfold qQ at h;rw[List.any_eq_false] at h;exact h L hL (List.isPrefixOf_iff_prefix.2 hp)
theorem ry(l:List ag)(p:List GStep):jd l p=qQ l p:=by
 unfold jd qQ;congr 1;funext x;unfold dT;rw[Bool.eq_iff_iff,List.isPrefixOf_iff_prefix,List.prefix_iff_eq_take];simp only[Bool.and_eq_true,decide_eq_true_eq];constructor;·exact fun h=>h.2.symm
 ·intro h;have:=congrArg List.length h;rw[List.length_take] at this;exact⟨by omega,h.symm⟩
def fK(way:Int)(v:aa)(p:List GStep):Bool:=(uh way v p).isSome&& !jd (aG way v).2 p
theorem ob(way:Int)(v:aa):kA way v=(pathsG [] v).filter (fK way v):=by
 unfold kA fK uh;congr 1;funext p;rw[ry]
theorem ql(way:Int)(v:aa)(A:Option Addr)(c:Nat)(w:World)(hv:eN v)(hx:SA w v.l A c):Calls Tryz.prog 33 #[.int .i64 way,.agg #[.int .i64 v.kind,.int .i64 v.n,.int .i64 v.x,.string v.s,.slice A v.l.length c]] w (wA w (kA way v)):=by
 have hkg:=ob way v;have hlen:=pathsG_len v [];have hfk: ∀p,fK way v p=((uh way v p).isSome&& !jd (aG way v).2 p):=fun p=>rfl;have hLo:=fun w0 h=>qa way v A c w0 hv h;have hAl:=fun w0 h=>lA v A c w0 (by have:=hv.2.2.2.2;omega) h;obtain⟨R,hR⟩: ∃R,R=kA way v:=⟨_,rfl⟩;obtain⟨all,hal⟩: ∃all,all=pathsG [] v:=⟨_,rfl⟩;obtain⟨LS,hLS⟩: ∃LS,LS=(aG way v).2:=⟨_,rfl⟩;rw[←hR,←hal] at hkg;rw[←hal] at hAl hlen;rw[←hLS] at hfk hLo;rw[←hR];have hb4:=hv.2.2.2.2;have hla:all.length≤100000:=by omega
 have E:=zZ (zY hx (zY hv (zY hkg (zY hfk (zY hLo hAl)))));clear hx hv hkg hfk hLo hAl hR hal hLS hlen hb4;have B0:=zZ (ab (ab (ae w) (.cells #[.int .i64 v.kind,.int .i64 v.n,.int .i64 v.x,.string v.s,.slice A v.l.length c] 27)) (.cells #[] 54));have P0:=zZ ((ai.new w 27 #[.int .i64 v.kind,.int .i64 v.n,.int .i64 v.x,.string v.s,.slice A v.l.length c]).alloc (.cells #[] 54));have O0:=zZ (show aA (α:=List GStep) _ (w.heap.size+1) 54 (.slice (some ⟨w.heap.size+1,0,none⟩) 0 0) [] (fun _=>False) by have:=aA.qc (α:=List GStep) (w.alloc (.cells #[.int .i64 v.kind,.int .i64 v.n,.int .i64 v.x,.string v.s,.slice A v.l.length c] 27)) 54 (w.heap.size+1) (by simp) (fun _=>False);simp only[World.size_alloc] at this;exact this);go_enter Tryz.func33,Tryz.ntmps33;go_wp2_with fail;refine(E.out.2.2.2.2.2 _ (E.out.1.below B0.out)).mono ?_;rintro e w1 ⟨A1,c1,rfl,hs1,hb1⟩;have P1:=zZ (P0.out.below hb1);have hz1:w.heap.size+2≤w1.heap.size:=by have:=hb1.size;simp at this;omega
 obtain⟨p0,p1,p2,p3,p4⟩:=P1.out.c5;have H1:=zZ (zY hs1.sb (zY (aj B0.out hb1) (O0.out.al hb1 (fun b h=>h.elim))));clear hs1 hb1;go_wp2_with fail;refine(E.out.2.2.2.2.1 _ (E.out.1.below H1.out.2.1)).mono ?_;clear p0 p1 p2 p3 p4;rintro e w2 ⟨AL,cL,rfl,hs2,hb2⟩;have hz2:=hb2.size;have hS1:SS w2 (fun b=>w.heap.size+2≤b∧b<w2.heap.size) all A1 c1:=SS.al H1.out.1 (fun b h=>hb2.block b h.2) (fun b h=>⟨by have:=h.1;simp at this;omega,by have:=h.2;omega⟩);have hS2:SS w2 (fun b=>w.heap.size+2≤b∧b<w2.heap.size) LS AL cL:=SS.al hs2 (fun _ _=>rfl) (fun b h=>⟨by have:=h.1;omega,h.2⟩);have H2:=zZ (zY hS1 (zY hS2 (zY (aj H1.out.2.1 hb2) (zY (P1.out.below hb2) (H1.out.2.2.al hb2 (fun b h=>h.elim))))));clear hS1 hS2 hs2 hb2;go_wp2_with fail;go_loopg[5,8] all.length (fun gk rv i wr=> ∃k:Nat,k≤all.length∧i=.int .i64 k∧gk=all.length-k∧ai wr w.heap.size 27 #[.int .i64 v.kind,.int .i64 v.n,.int .i64 v.x,.string v.s,.slice A v.l.length c]∧SS wr (fun b=>w.heap.size+2≤b∧b<w2.heap.size) all A1 c1∧SS wr (fun b=>w.heap.size+2≤b∧b<w2.heap.size) LS AL cL∧aA wr (w.heap.size+1) 54 rv ((all.take k).filter (fK way v)) (fun b=>w.heap.size+2≤b∧b<w2.heap.size)∧(∀g,rv.ownBlock=some g→g<w.heap.size+2∨w2.heap.size≤g)∧Below w.heap.size w wr∧w2.heap.size≤wr.heap.size);case atStart=>exact⟨0,by omega,rfl,by omega,H2.out.2.2.2.1,H2.out.1,H2.out.2.1,H2.out.2.2.2.2.mono (fun b h=>h.elim),fun g hg=>.inl (by simp[Value.ownBlock] at hg;omega),H2.out.2.2.1,Nat.le_refl _⟩
 case round=>
  obtain⟨k,hk,rfl,rfl,hP0,hsa,hsl,hown,hloc,hbel,hzw⟩:=hrel;have hz0:=hP0.lt;by_cases hlt:k<all.length
  ·obtain⟨b,off,Ap,cp,rfl,hb,hsp,k0⟩:=hsa.ko hlt;obtain⟨p0,p1,p2,p3,p4⟩:=hP0.c5;have hi1:(k:Int)<all.length:=by omega
   have hi2:(0:Int)≤k:=by omega
   obtain⟨q,hq⟩: ∃q,q=all[k]:=⟨_,rfl⟩;rw[←hq] at hsp k0;obtain⟨sb,hsb⟩: ∃sb,sb=(uh way v q).isSome:=⟨_,rfl⟩;have hWT:=fun w0 h1 h2=>(mC way v q A Ap c cp w0 E.out.2.1 h1 h2).mono fun e w' h=>(show ∃A3 m3 c3,e=.returned (.tuple #[.slice A3 m3 c3,.bool sb])∧Below w0.heap.size w0 w' from by obtain⟨A3,c3,rfl,_,hb⟩:=h;exact⟨A3,_,c3,by rw[hsb],hb⟩);have hbw:b<wr.heap.size:=by have:=hb.2;omega
   have hfk:=E.out.2.2.2.1 q;rw[←hsb] at hfk;have hfl:((all.take k).filter (fK way v)).length≤k:=Nat.le_trans (List.length_filter_le _ _) (by rw[List.length_take];omega);have hfs:=List.filter_append (p:=fK way v) (all.take k) [q];rw[hq,←List.take_succ_eq_append_getElem hlt,←hq] at hfs;have HH:=zZ (zY hsa (zY hsl (zY hown (zY hloc (zY hbel (zY hsp (zY hP0 (zY hfk (zY hfl hfs)))))))));have HT:=zZ (zY hWT (zY (E.out.1.below hbel) (hsp.sa (fun b h=>by have:=h.2;omega))));clear hsa hsl hown hloc hbel hsp hP0 hfk hfl hfs hWT hsb hq;rename World=>wo;go_wp2_with fail;go_region_held3(fun u=>u.cell? ⟨w.heap.size,0,none⟩=some (.int .i64 v.kind)∧u.cell? ⟨w.heap.size,1,none⟩=some (.int .i64 v.n)∧u.cell? ⟨w.heap.size,2,none⟩=some (.int .i64 v.x)∧u.cell? ⟨w.heap.size,3,none⟩=some (.string v.s)∧u.cell? ⟨w.heap.size,4,none⟩=some (.slice A v.l.length c)∧u.cell? ⟨b,off+k,none⟩=some (.slice Ap q.length cp)) (go_keep) (first|(go_at_call 22;(refine(HT.out.1 _ (by first|exact HT.out.2.1|exact HT.out.2.1.drew) (by first|exact HT.out.2.2|exact HT.out.2.2.drew)).mono ?_;rintro e3 w3 ⟨A3,m3,c3,rfl,hb3⟩;have zc:=(show Below wo.heap.size wo w3 from(by first|exact hb3|exact aj (ae wo).drew hb3));obtain⟨q0,q1,q2,q3,q4⟩:=(HH.out.2.2.2.2.2.2.1.below zc).c5;have j0:=(zc.cell (p:=⟨b,_,none⟩) hbw).trans k0;have HZ:=zZ zc;clear hb3 zc)));have hz3:=HZ.out.size;clear p0 p1 p2 p3 p4 k0;cases sb
   ·have hfs:(all.take (k+1)).filter (fK way v)=(all.take k).filter (fK way v):=by rw[HH.out.2.2.2.2.2.2.2.2.2,List.filter_cons,HH.out.2.2.2.2.2.2.2.1];simp
    have HF:=zZ hfs.symm;clear hfs;go_wp2_with fail;go_roundg(all.length-(k+1));case measure=>omega
    case rel=>exact⟨k+1,by omega,by go_num,rfl,HH.out.2.2.2.2.2.2.1.below HZ.out,SS.al HH.out.1 (fun b h=>HZ.out.block b (by omega)) (fun _ h=>h),SS.al HH.out.2.1 (fun b h=>HZ.out.block b (by omega)) (fun _ h=>h),HF.out▸HH.out.2.2.1.al HZ.out (fun b h=>by omega),HH.out.2.2.2.1,aj HH.out.2.2.2.2.1 HZ.out,by have:=HZ.out.size;omega⟩
   ·have hHu:=(qC LS q AL Ap cL cp w3 ((HH.out.2.1.sa (fun b h=>by have:=h.2;omega)).below HZ.out) (HT.out.2.2.below HZ.out)).mono fun _ _ h=>gL.ret h;obtain⟨hu,hhu⟩: ∃hu,hu=jd LS q:=⟨_,rfl⟩;have hfk:=HH.out.2.2.2.2.2.2.2.1;rw[←hhu] at hHu hfk;have HK:=zZ hfk;clear hfk hhu;go_wp2_with fail;refine hHu.mono ?_;clear hHu;rintro e w4 ⟨rfl,hb4⟩;have zc:=aj HZ.out hb4;have hz4:=zc.size;have j1:=(zc.cell (p:=⟨b,_,none⟩) hbw).trans ((HZ.out.cell (p:=⟨b,_,none⟩) hbw).symm.trans j0);have H4:=zZ zc;clear hb4 zc q0 q1 q2 q3 q4;cases hu
    ·have hfs:(all.take (k+1)).filter (fK way v)=(all.take k).filter (fK way v)++[q]:=by rw[HH.out.2.2.2.2.2.2.2.2.2,List.filter_cons,HK.out];simp
     have HF:=zZ hfs;clear hfs;have hpx:=zZ (show SS w4 (fun b=>w.heap.size+2≤b∧b<w2.heap.size) q Ap cp from SS.al HH.out.2.2.2.2.2.1 (fun b h=>H4.out.block b (by omega)) (fun _ h=>h));have hO4:=zZ (HH.out.2.2.1.al H4.out (fun b h=>by omega));go_wp2_with(at_builtin;(refine av rfl _ _ 51 rfl (v:=u5) (u:=.slice (some ⟨w4.heap.size,0,none⟩) 1 1) (by rfl) (by rfl) (fN 51 _ (w.heap.size+1) 54 (.agg #[.slice none 0 0]) 24 Tryz.underlying51 iQ rfl (by decide) u5 _ q [.slice Ap q.length cp] _ _ (fun b=>w.heap.size+2≤b∧b<w2.heap.size) (hO4.out.al (ab (ae w4) _) (fun b h=>by omega)) (fun b h=>⟨by simp;omega,fun e=>by have:=HH.out.2.2.2.1 b e;omega⟩) (RS.al (SS.rs hpx.out) (fun b h=>(ab (ae w4) _).block b (by omega)) (fun b h=>h)) (aE [_] rfl) (by have:=HH.out.2.2.2.2.2.2.2.2.1;omega) (by have:=HH.out.2.2.2.2.2.2.2.2.1;unfold maxLen;omega) (by simp;omega)) ?_;rintro r5 w5 ⟨ho5,hbl5,hlc5,hg5⟩;rw[←HF.out] at ho5;have HO5:=zZ (zY ho5 (zY hbl5 (zY hlc5 hg5)));clear ho5 hbl5 hlc5 hg5));go_roundg(all.length-(k+1));case measure=>omega
     case rel=>
      have hgne: ∀b,w.heap.size+2≤b→b<w2.heap.size→u5.ownBlock≠some b:=fun b h1 h2 e=>by have:=HH.out.2.2.2.1 b e;omega
      have hkp: ∀b,w.heap.size+2≤b→b<w2.heap.size→w5.heap[b]? =wo.heap[b]? :=fun b h1 h2=>by rw[HO5.out.2.2.2.block b (by simp;omega) (fun e=>hgne b h1 h2 e.symm),(ab (ae w4) _).block b (by omega)];exact H4.out.block b (by omega)
      refine⟨k+1,by omega,by go_num,rfl,((HH.out.2.2.2.2.2.2.1.below H4.out).alloc _).aH HO5.out.2.1 (by omega),SS.al HH.out.1 (fun b h=>hkp b h.1 h.2) (fun _ h=>h),SS.al HH.out.2.1 (fun b h=>hkp b h.1 h.2) (fun _ h=>h),HO5.out.1,?_,?_,?_⟩
      ·intro g hg;rcases HO5.out.2.2.1 with h|h;·exact HH.out.2.2.2.1 g (h▸hg)
       ·rw[h] at hg;injection hg with hg;right;simp at hg;omega
      ·exact(ab (aj HH.out.2.2.2.2.1 H4.out) _).trans (HO5.out.2.1.mono (by omega))
      ·have:=HO5.out.2.1.size;simp at this;omega
    ·have hfs:(all.take (k+1)).filter (fK way v)=(all.take k).filter (fK way v):=by rw[HH.out.2.2.2.2.2.2.2.2.2,List.filter_cons,HK.out];simp
     have HF:=zZ hfs.symm;clear hfs;go_wp2_with fail;go_roundg(all.length-(k+1));case measure=>omega
     case rel=>exact⟨k+1,by omega,by go_num,rfl,HH.out.2.2.2.2.2.2.1.below H4.out,SS.al HH.out.1 (fun b h=>H4.out.block b (by omega)) (fun _ h=>h),SS.al HH.out.2.1 (fun b h=>H4.out.block b (by omega)) (fun _ h=>h),HF.out▸HH.out.2.2.1.al H4.out (fun b h=>by omega),HH.out.2.2.2.1,aj HH.out.2.2.2.2.1 H4.out,by have:=H4.out.size;omega⟩
  ·have e:k=all.length:=by omega
   subst e;rw[List.take_length] at hown;obtain⟨Av,cv,rfl⟩:=hown.form;have HO:=zZ (zY hown hbel);clear hown hbel hsa;go_wp2_with fail;go_ret;have hg:=HO.out.1.aq;have hss:=(HO.out.1.ss wr (fun b=>b<wr.heap.size) (fun b _=>rfl) (fun b h=>by rcases h with h|h;(·have:=hg b h;omega);·omega)).2;exact⟨Av,cv,by rw[E.out.2.2.1];rfl,by rw[E.out.2.2.1];exact hss.sa (fun _ h=>h),HO.out.2⟩
theorem qJ(way:Int)(v:aa)(A:Option Addr)(c:Nat)(w:World)(ht:fT w)(hv:eN v)(hx:SA w v.l A c):Calls Tryz.prog 32 #[.int .i64 way,.agg #[.int .i64 v.kind,.int .i64 v.n,.int .i64 v.x,.string v.s,.slice A v.l.length c]] w (wA w (kA way v)):=by
 have hkg:=ob way v;have hlen:=pathsG_len v [];have hfk: ∀p,fK way v p=((uh way v p).isSome&& !jd (aG way v).2 p):=fun p=>rfl;have HT0:=zZ ht;clear ht;have hLo:=fun w0 h0 h=>gX way v A c w0 h0 hv h;have hAl:=fun w0 h=>(lH v A c w0 (by have:=hv.2.2.2.2;omega) h).mono fun e w' h=>(show ∃A' c',e=.returned (.slice A' (pathsG [] v).length c')∧SB w0.heap.size w' (pathsG [] v) A' c'∧Below w0.heap.size w0 w' from by obtain⟨A',c',h1,h2,h3⟩:=h;exact⟨A',c',h1,SB.mono h2.sf.2.sb (by omega),h3⟩);obtain⟨R,hR⟩: ∃R,R=kA way v:=⟨_,rfl⟩;obtain⟨all,hal⟩: ∃all,all=pathsG [] v:=⟨_,rfl⟩;obtain⟨LS,hLS⟩: ∃LS,LS=(aG way v).2:=⟨_,rfl⟩;rw[←hR,←hal] at hkg;rw[←hal] at hAl hlen;rw[←hLS] at hfk hLo;rw[←hR];have hb4:=hv.2.2.2.2;have hla:all.length≤100000:=by omega
 have E:=zZ (zY hx (zY hv (zY hkg (zY hfk (zY hLo hAl)))));clear hx hv hkg hfk hLo hAl hR hal hLS hlen hb4;have B0:=zZ (ab (ab (ae w) (.cells #[.int .i64 v.kind,.int .i64 v.n,.int .i64 v.x,.string v.s,.slice A v.l.length c] 27)) (.cells #[] 54));have P0:=zZ ((ai.new w 27 #[.int .i64 v.kind,.int .i64 v.n,.int .i64 v.x,.string v.s,.slice A v.l.length c]).alloc (.cells #[] 54));have O0:=zZ (show aA (α:=List GStep) _ (w.heap.size+1) 54 (.slice (some ⟨w.heap.size+1,0,none⟩) 0 0) [] (fun _=>False) by have:=aA.qc (α:=List GStep) (w.alloc (.cells #[.int .i64 v.kind,.int .i64 v.n,.int .i64 v.x,.string v.s,.slice A v.l.length c] 27)) 54 (w.heap.size+1) (by simp) (fun _=>False);simp only[World.size_alloc] at this;exact this);go_enter Tryz.func32,Tryz.ntmps32;go_wp2_with fail;refine(E.out.2.2.2.2.1 _ (HT0.out.below B0.out) (E.out.1.below B0.out)).mono ?_;rintro e w1 ⟨AL,cL,rfl,hs1,hb1⟩;have P1:=zZ (P0.out.below hb1);have hz1:w.heap.size+2≤w1.heap.size:=by have:=hb1.size;simp at this;omega
 obtain⟨p0,p1,p2,p3,p4⟩:=P1.out.c5;have H1:=zZ (zY hs1 (zY (aj B0.out hb1) (O0.out.al hb1 (fun b h=>h.elim))));clear hs1 hb1;go_wp2_with fail;refine(E.out.2.2.2.2.2 _ (E.out.1.below H1.out.2.1)).mono ?_;clear p0 p1 p2 p3 p4;rintro e w2 ⟨A1,c1,rfl,hs2,hb2⟩;have hz2:=hb2.size;have hS1:SS w2 (fun b=>w.heap.size+2≤b∧b<w2.heap.size) all A1 c1:=SS.al hs2 (fun _ _=>rfl) (fun b h=>⟨by have:=h.1;omega,h.2⟩);have hS2:SS w2 (fun b=>w.heap.size+2≤b∧b<w2.heap.size) LS AL cL:=SS.al H1.out.1 (fun b h=>hb2.block b h.2) (fun b h=>⟨by have:=h.1;simp at this;omega,by have:=h.2;omega⟩);have H2:=zZ (zY hS1 (zY hS2 (zY (aj H1.out.2.1 hb2) (zY (P1.out.below hb2) (H1.out.2.2.al hb2 (fun b h=>h.elim))))));clear hS1 hS2 hs2 hb2;go_wp2_with fail;go_loopg[5,18] all.length (fun gk rv i wr=> ∃k:Nat,k≤all.length∧i=.int .i64 k∧gk=all.length-k∧ai wr w.heap.size 27 #[.int .i64 v.kind,.int .i64 v.n,.int .i64 v.x,.string v.s,.slice A v.l.length c]∧SS wr (fun b=>w.heap.size+2≤b∧b<w2.heap.size) all A1 c1∧SS wr (fun b=>w.heap.size+2≤b∧b<w2.heap.size) LS AL cL∧aA wr (w.heap.size+1) 54 rv ((all.take k).filter (fK way v)) (fun b=>w.heap.size+2≤b∧b<w2.heap.size)∧(∀g,rv.ownBlock=some g→g<w.heap.size+2∨w2.heap.size≤g)∧Below w.heap.size w wr∧w2.heap.size≤wr.heap.size);case atStart=>exact⟨0,by omega,rfl,by omega,H2.out.2.2.2.1,H2.out.1,H2.out.2.1,H2.out.2.2.2.2.mono (fun b h=>h.elim),fun g hg=>.inl (by simp[Value.ownBlock] at hg;omega),H2.out.2.2.1,Nat.le_refl _⟩
 case round=>
  obtain⟨k,hk,rfl,rfl,hP0,hsa,hsl,hown,hloc,hbel,hzw⟩:=hrel;have hz0:=hP0.lt;by_cases hlt:k<all.length
  ·obtain⟨b,off,Ap,cp,rfl,hb,hsp,k0⟩:=hsa.ko hlt;obtain⟨p0,p1,p2,p3,p4⟩:=hP0.c5;have hi1:(k:Int)<all.length:=by omega
   have hi2:(0:Int)≤k:=by omega
   obtain⟨q,hq⟩: ∃q,q=all[k]:=⟨_,rfl⟩;rw[←hq] at hsp k0;obtain⟨sb,hsb⟩: ∃sb,sb=(uh way v q).isSome:=⟨_,rfl⟩;have hWT:=fun w0 h0 h1 h2=>(iy way v q A Ap c cp w0 h0 E.out.2.1 h1 h2).mono fun e w' h=>(show ∃A3 m3 c3,e=.returned (.tuple #[.slice A3 m3 c3,.bool sb])∧Below w0.heap.size w0 w' from by obtain⟨A3,c3,rfl,_,hb⟩:=h;exact⟨A3,_,c3,by rw[hsb],hb⟩);have hbw:b<wr.heap.size:=by have:=hb.2;omega
   have hfk:=E.out.2.2.2.1 q;rw[←hsb] at hfk;have hfl:((all.take k).filter (fK way v)).length≤k:=Nat.le_trans (List.length_filter_le _ _) (by rw[List.length_take];omega);have hfs:=List.filter_append (p:=fK way v) (all.take k) [q];rw[hq,←List.take_succ_eq_append_getElem hlt,←hq] at hfs;have HH:=zZ (zY hsa (zY hsl (zY hown (zY hloc (zY hbel (zY hsp (zY hP0 (zY hfk (zY hfl hfs)))))))));have HT:=zZ (zY hWT (zY (E.out.1.below hbel) (hsp.sa (fun b h=>by have:=h.2;omega))));clear hsa hsl hown hloc hbel hsp hP0 hfk hfl hfs hWT hsb hq;rename World=>wo;go_wp2_with fail;refine(HT.out.1 _ ((HT0.out.below HH.out.2.2.2.2.1).below (ab (ae wo) _)) (HT.out.2.1.below (ab (ae wo) _)) (HT.out.2.2.below (ab (ae wo) _))).mono ?_;rintro e3 w3 ⟨A3,m3,c3,rfl,hb3⟩;have zc:=aj (ab (ae wo) (.cells #[.slice Ap q.length cp] 54)) hb3;have hPq:=(ai.new wo 54 #[.slice Ap q.length cp]).below hb3;have j0:=hPq.c1;have hjz:=hPq.lt;have HZ:=zZ zc;have HPq:=zZ hPq;clear hb3 zc hPq;have hz3:=HZ.out.size;clear p0 p1 p2 p3 p4 k0;cases sb
   ·have hfs:(all.take (k+1)).filter (fK way v)=(all.take k).filter (fK way v):=by rw[HH.out.2.2.2.2.2.2.2.2.2,List.filter_cons,HH.out.2.2.2.2.2.2.2.1];simp
    have HF:=zZ hfs.symm;clear hfs;go_wp2_with fail;go_roundg(all.length-(k+1));case measure=>omega
    case rel=>exact⟨k+1,by omega,by go_num,rfl,HH.out.2.2.2.2.2.2.1.below HZ.out,SS.al HH.out.1 (fun b h=>HZ.out.block b (by omega)) (fun _ h=>h),SS.al HH.out.2.1 (fun b h=>HZ.out.block b (by omega)) (fun _ h=>h),HF.out▸HH.out.2.2.1.al HZ.out (fun b h=>by omega),HH.out.2.2.2.1,aj HH.out.2.2.2.2.1 HZ.out,by have:=HZ.out.size;omega⟩
   ·have hHu:=qE LS q AL Ap cL cp w3 ((HH.out.2.1.sa (fun b h=>by have:=h.2;omega)).below HZ.out) (HT.out.2.2.below HZ.out);obtain⟨hu,hhu⟩: ∃hu,hu=jd LS q:=⟨_,rfl⟩;have hfk:=HH.out.2.2.2.2.2.2.2.1;rw[←hhu] at hHu hfk;have HK:=zZ hfk;clear hfk hhu;go_wp2_with fail;refine hHu.mono ?_;clear hHu;rintro e w4 ⟨rfl,hb4⟩;have zc:=aj HZ.out hb4;have hz4:=zc.size;have j1:=(HPq.out.below hb4).c1;have H4:=zZ zc;clear hb4 zc j0;cases hu
    ·have hfs:(all.take (k+1)).filter (fK way v)=(all.take k).filter (fK way v)++[q]:=by rw[HH.out.2.2.2.2.2.2.2.2.2,List.filter_cons,HK.out];simp
     have HF:=zZ hfs;clear hfs;have hpx:=zZ (show SS w4 (fun b=>w.heap.size+2≤b∧b<w2.heap.size) q Ap cp from SS.al HH.out.2.2.2.2.2.1 (fun b h=>H4.out.block b (by omega)) (fun _ h=>h));have hO4:=zZ (HH.out.2.2.1.al H4.out (fun b h=>by omega));go_wp2_with(at_builtin;(refine av rfl _ _ 51 rfl (v:=u5) (u:=.slice (some ⟨w4.heap.size,0,none⟩) 1 1) (by rfl) (by rfl) (fN 51 _ (w.heap.size+1) 54 (.agg #[.slice none 0 0]) 24 Tryz.underlying51 iQ rfl (by decide) u5 _ q [.slice Ap q.length cp] _ _ (fun b=>w.heap.size+2≤b∧b<w2.heap.size) (hO4.out.al (ab (ae w4) _) (fun b h=>by omega)) (fun b h=>⟨by simp;omega,fun e=>by have:=HH.out.2.2.2.1 b e;omega⟩) (RS.al (SS.rs hpx.out) (fun b h=>(ab (ae w4) _).block b (by omega)) (fun b h=>h)) (aE [_] rfl) (by have:=HH.out.2.2.2.2.2.2.2.2.1;omega) (by have:=HH.out.2.2.2.2.2.2.2.2.1;unfold maxLen;omega) (by simp;omega)) ?_;rintro r5 w5 ⟨ho5,hbl5,hlc5,hg5⟩;rw[←HF.out] at ho5;have HO5:=zZ (zY ho5 (zY hbl5 (zY hlc5 hg5)));clear ho5 hbl5 hlc5 hg5));go_roundg(all.length-(k+1));case measure=>omega
     case rel=>
      have hgne: ∀b,w.heap.size+2≤b→b<w2.heap.size→u5.ownBlock≠some b:=fun b h1 h2 e=>by have:=HH.out.2.2.2.1 b e;omega
      have hkp: ∀b,w.heap.size+2≤b→b<w2.heap.size→w5.heap[b]? =wo.heap[b]? :=fun b h1 h2=>by rw[HO5.out.2.2.2.block b (by simp;omega) (fun e=>hgne b h1 h2 e.symm),(ab (ae w4) _).block b (by omega)];exact H4.out.block b (by omega)
      refine⟨k+1,by omega,by go_num,rfl,((HH.out.2.2.2.2.2.2.1.below H4.out).alloc _).aH HO5.out.2.1 (by omega),SS.al HH.out.1 (fun b h=>hkp b h.1 h.2) (fun _ h=>h),SS.al HH.out.2.1 (fun b h=>hkp b h.1 h.2) (fun _ h=>h),HO5.out.1,?_,?_,?_⟩
      ·intro g hg;rcases HO5.out.2.2.1 with h|h;·exact HH.out.2.2.2.1 g (h▸hg)
       ·rw[h] at hg;injection hg with hg;right;simp at hg;omega
      ·exact(ab (aj HH.out.2.2.2.2.1 H4.out) _).trans (HO5.out.2.1.mono (by omega))
      ·have:=HO5.out.2.1.size;simp at this;omega
    ·have hfs:(all.take (k+1)).filter (fK way v)=(all.take k).filter (fK way v):=by rw[HH.out.2.2.2.2.2.2.2.2.2,List.filter_cons,HK.out];simp
     have HF:=zZ hfs.symm;clear hfs;go_wp2_with fail;go_roundg(all.length-(k+1));case measure=>omega
     case rel=>exact⟨k+1,by omega,by go_num,rfl,HH.out.2.2.2.2.2.2.1.below H4.out,SS.al HH.out.1 (fun b h=>H4.out.block b (by omega)) (fun _ h=>h),SS.al HH.out.2.1 (fun b h=>H4.out.block b (by omega)) (fun _ h=>h),HF.out▸HH.out.2.2.1.al H4.out (fun b h=>by omega),HH.out.2.2.2.1,aj HH.out.2.2.2.2.1 H4.out,by have:=H4.out.size;omega⟩
  ·have e:k=all.length:=by omega
   subst e;rw[List.take_length] at hown;obtain⟨Av,cv,rfl⟩:=hown.form;have HO:=zZ (zY hown hbel);clear hown hbel hsa;go_wp2_with fail;go_ret;have hg:=HO.out.1.aq;have hss:=(HO.out.1.ss wr (fun b=>b<wr.heap.size) (fun b _=>rfl) (fun b h=>by rcases h with h|h;(·have:=hg b h;omega);·omega)).2;exact⟨Av,cv,by rw[E.out.2.2.1];rfl,by rw[E.out.2.2.1];exact hss.sa (fun _ h=>h),HO.out.2⟩
theorem iF(v:aa)(p:List GStep)(A Ap:Option Addr)(c cp:Nat)(w:World)(hn:bulkVal v≤1048576)(hv:bu v)(hx:SA w v.l A c)(hp:SA w p Ap cp):Calls Tryz.prog 31 #[.agg #[.int .i64 v.kind,.int .i64 v.n,.int .i64 v.x,.string v.s,.slice A v.l.length c],.slice Ap p.length cp] w (zo w (gv v p)):=by
 obtain⟨o,ho⟩: ∃o,o=gv v p:=⟨_,rfl⟩;rw[←ho];have O:=zZ ho;clear ho;have hlp:p.length≤9223372036854775807:=by have:=hp.len;unfold maxLen at this;omega
 have b0:=zZ (ab (ab (ae w) (.cells #[.int .i64 v.kind,.int .i64 v.n,.int .i64 v.x,.string v.s,.slice A v.l.length c] 27)) (.cells #[.int .i64 0,.int .i64 0,.int .i64 0,.string .empty,.slice none 0 0] 27));have E:=zZ (zY hx hp);clear hx hp;have HI:=zZ hv;clear hv;go_enter Tryz.func31,Tryz.ntmps31;go_wp2_with fail;go_loopg[11] p.length (fun gk i wr=> ∃(k:Nat) (x:aa) (Ax:Option Addr) (cx:Nat),k≤p.length∧i=.int .i64 k∧gk=p.length-k∧Hid (gv v (p.take k)=some x)∧bu x∧ai wr w.heap.size 27 #[.int .i64 x.kind,.int .i64 x.n,.int .i64 x.x,.string x.s,.slice Ax x.l.length cx]∧ai wr (w.heap.size+1) 27 #[.int .i64 0,.int .i64 0,.int .i64 0,.string .empty,.slice none 0 0]∧SS wr (fun b=>b<w.heap.size) x.l Ax cx∧Below w.heap.size w wr);case atStart=>exact⟨0,v,A,c,by omega,rfl,by omega,rfl,HI.out,(ai.at rfl).alloc _,ai.at (by simp),SS.al E.out.1 (fun b h=>b0.out.block b h) (fun b h=>h),b0.out⟩
 case round=>
  obtain⟨k,x,Ax,cx,hk,rfl,rfl,hat,hvi,hP0,hP1,hsx,hbel⟩:=hrel;have HB0:=zZ (show bulkVal x≤1048576 from Nat.le_trans (rL _ hat.out) hn);have hz0:w.heap.size<wr.heap.size:=hP0.lt;have hz1:w.heap.size+1<wr.heap.size:=hP1.lt;by_cases hlt:k<p.length
  ·obtain⟨b,off,rfl,hb,hI,k0,k1⟩:=(E.out.2.below hbel).df hlt;obtain⟨p0,p1,p2,p3,p4⟩:=hP0.c5;go_wp2_with fail;refine(pv x p[k] Ax cx _ (Nat.le_trans (fO x) HB0.out) hI).mono ?_;rintro e w2 ⟨rfl,hb2⟩;have R0:=(hP0.alloc (.cells #[.int .i64 p[k].at_,.bool p[k].name] 86)).below hb2;have R1:=(hP1.alloc (.cells #[.int .i64 p[k].at_,.bool p[k].name] 86)).below hb2;have B2:=zZ (aj (ab (ae wr) _) hb2);have hz2:w.heap.size+1<w2.heap.size:=R1.lt;have hz2':w.heap.size<w2.heap.size:=R0.lt;clear hb2 p0 p1 p2 p3 p4 k0 k1 hP0 hP1;rcases eF x p[k] with hpl|⟨i,hpl,hi⟩
   ·have hst:=fF hpl;rw[hpl];have hO:o=none:=by rw[O.out,←List.take_append_drop (k+1) p];exact jL _ _ _ (by rw[List.take_succ_eq_append_getElem hlt,nQ,hat.out];simpa using hst)
    have O':=zZ hO;clear hO;obtain⟨r0,r1,r2,r3,r4⟩:=R1.c5;obtain⟨f0,f1,f2,f3,f4⟩:=R1.f5;clear R0 R1;go_wp2_with fail;refine bodyPost_ret (v:=wE (zv none) none 0 false) (by simp[results,wE,zv,Tryz.results31,go_sem, *]<;>rfl) rfl ?_;rw[O'.out];refine⟨none,0,rfl,zH _ _,ze,?_⟩;refine Below.setCell (Below.setCell (Below.setCell (Below.setCell (Below.setCell (aj hbel B2.out) ?_ _) ?_ _) ?_ _) ?_ _) ?_ _;all_goals(simp;try omega)
   ·have hst:=zZ (cP hpl hi);rw[hpl];have hs2:=SS.al hsx (S':=fun b=>b<w.heap.size) (fun b h=>B2.out.block b (by omega)) (fun b h=>h);have HS2:=zZ hs2;have hs2':SA w2 x.l Ax cx:=SS.al hs2 (fun b h=>rfl) (fun b h=>by omega);obtain⟨r0,r1,r2,r3,r4⟩:=R0.c5;obtain⟨f0,f1,f2,f3,f4⟩:=R0.f5;obtain⟨F,⟨hl1,hl2,hl3⟩,hF⟩:=hs2;rcases hl3 with⟨he,_⟩|⟨b1,off1,F',xs,rfl,rfl,hel,hcs⟩;·rw[he] at hi;simp at hi
    ·obtain⟨F1,cs,hr,hsub,hxs⟩:=hel.get i hi;obtain⟨A3,c3,rfl,hI3,hs3⟩:=cZ.1 hr;have hcs':=hcs.sub hxs;obtain⟨k0,k1,k2,k3,k4⟩:=zY hcs'.c0 (zY hcs'.c1 (zY hcs'.c2 (zY hcs'.c3 hcs'.c4)));have hbb:b1<w.heap.size:=hF b1 (List.mem_cons_self ..);have HS3:=zZ (show SS w2 (fun b=>b<w.heap.size) x.l[i].l A3 c3 from⟨F1,hs3,fun b hb=>hF b (List.mem_cons_of_mem _ (hsub b hb))⟩);have n1:b1≠w.heap.size:=by omega
     have n1':w.heap.size≠b1:=by omega
     clear hel hcs hcs' hr hxs hsub hs3 hF hs2' hsx;simp only[aD.wd] at k0 k1 k2 k3 k4;go_wp2_with fail;go_roundg(p.length-(k+1));case measure=>omega
     case rel=>
      refine⟨k+1,x.l[i],A3,c3,by omega,by go_num,rfl,?_,hI3,?_,?_,?_,?_⟩;·exact(show gv v (p.take (k+1))=some x.l[i] by rw[List.take_succ_eq_append_getElem hlt,nQ,hat.out];simpa using hst.out)
      ·exact((((R0.cG 0 _).cG 1 _).cG 2 _).cG 3 _).cG 4 _
      ·exact((((R1.mM (by simp<;>omega) _).mM (by simp<;>omega) _).mM (by simp<;>omega) _).mM (by simp<;>omega) _).mM (by simp<;>omega) _
      ·refine SS.al HS3.out (fun b hb=> ?_) (fun b h=>h);rw[Below.heap_setCell _ _ _ _ (by simp;omega),Below.heap_setCell _ _ _ _ (by simp;omega),Below.heap_setCell _ _ _ _ (by simp;omega),Below.heap_setCell _ _ _ _ (by simp;omega),Below.heap_setCell _ _ _ _ (by simp;omega)]
      ·refine Below.setCell (Below.setCell (Below.setCell (Below.setCell (Below.setCell (aj hbel B2.out) ?_ _) ?_ _) ?_ _) ?_ _) ?_ _;all_goals(simp;try omega)
  ·have e:k=p.length:=by omega
   subst e;have hO:o=some x:=by rw[O.out,←hat.out,List.take_length]
   have O':=zZ hO;clear hO;have hsa:SA wr x.l Ax cx:=SS.al hsx (fun b h=>rfl) (fun b h=>by omega);have HV:=zZ (zY hvi hbel);obtain⟨p0,p1,p2,p3,p4⟩:=hP0.c5;go_wp2_with fail;refine(jk x Ax cx _ HB0.out hvi hsa).mono ?_;rintro e w2 ⟨A2,c2,rfl,hsf,hb2⟩;have R1:=hP1.below hb2;obtain⟨r0,r1,r2,r3,r4⟩:=R1.c5;have hz2:w.heap.size+1<w2.heap.size:=R1.lt;obtain⟨f0,f1,f2,f3,f4⟩:=R1.f5;have HS:=zZ (zY hsf (aj hbel hb2));clear hsf hb2 hsx hvi hbel hsa;go_wp2_with fail;refine bodyPost_ret (v:=wE (zv (some x)) A2 c2 true) (by simp[results,wE,zv,Tryz.results31,go_sem, *]<;>rfl) rfl ?_;rw[O'.out];refine⟨A2,c2,rfl,?_,HV.out.1,?_⟩;·refine SF.mono (base:=wr.heap.size) ?_ (by omega);refine SF.set (SF.set (SF.set (SF.set (SF.set HS.out.1 ?_ _) ?_ _) ?_ _) ?_ _) ?_ _;all_goals(simp;try omega)
   ·refine Below.setCell (Below.setCell (Below.setCell (Below.setCell (Below.setCell HS.out.2 ?_ _) ?_ _) ?_ _) ?_ _) ?_ _;all_goals(simp;try omega)
def wg(v:aa):Prop:= ∀(u:aa)(A A':Option Addr)(c c':Nat)(w:World),SA w v.l A c→SA w u.l A' c'→Calls Tryz.prog 12 #[.agg #[.int .i64 v.kind,.int .i64 v.n,.int .i64 v.x,.string v.s,.slice A v.l.length c],.agg #[.int .i64 u.kind,.int .i64 u.n,.int .i64 u.x,.string u.s,.slice A' u.l.length c']] w (bY w (.bool (decide (v=u))))
theorem tK(v:aa):wg v:=by
 refine aa.ind (p:=wg) (fun v IH=> ?_) v;intro u A A' c c' w hx hy;have hl:v.l.length≤9223372036854775807:=by have:=hx.len;unfold maxLen at this;omega
 have hl':u.l.length≤9223372036854775807:=by have:=hy.len;unfold maxLen at this;omega
 obtain⟨r,hr⟩: ∃r,r=decide (v=u):=⟨_,rfl⟩;rw[←hr];have HR:=zZ hr;clear hr;obtain⟨k,n,x,s,l⟩:=v;obtain⟨k',n',x',s',l'⟩:=u;simp only at hx hy hl hl' IH;have IH':=zZ IH;clear IH;have E:=zZ (zY hx hy);clear hx hy;have B0:=zZ (ab (ab (ae w) (.cells #[.int .i64 k,.int .i64 n,.int .i64 x,.string s,.slice A l.length c] 27)) (.cells #[.int .i64 k',.int .i64 n',.int .i64 x',.string s',.slice A' l'.length c'] 27));have P0:=zZ ((ai.new w 27 #[.int .i64 k,.int .i64 n,.int .i64 x,.string s,.slice A l.length c]).alloc (.cells #[.int .i64 k',.int .i64 n',.int .i64 x',.string s',.slice A' l'.length c'] 27));have P1:=zZ (ai.at (w:=w.alloc (.cells #[.int .i64 k,.int .i64 n,.int .i64 x,.string s,.slice A l.length c] 27)) (g:=w.heap.size+1) (t:=27) (cs:=#[.int .i64 k',.int .i64 n',.int .i64 x',.string s',.slice A' l'.length c']) (by simp));by_cases h1:k=k'
 ·subst h1;by_cases h2:n=n'
  ·subst h2;by_cases h3:x=x'
   ·subst h3;by_cases h4:s=s'
    ·subst h4;have hs1:=ou s;by_cases h5:l.length=l'.length
     ·have h5':((l.length:Int) != l'.length)=false:=by simp[h5]
      have H5:=zZ h5;clear h5;go_enter Tryz.func12,Tryz.ntmps12;go_wp2_with fail;go_loopg[5] l.length (fun gk i wr=> ∃(j:Nat),j≤l.length∧i=.int .i64 j∧gk=l.length-j∧Hid (l.take j=l'.take j)∧ai wr w.heap.size 27 #[.int .i64 k,.int .i64 n,.int .i64 x,.string s,.slice A l.length c]∧ai wr (w.heap.size+1) 27 #[.int .i64 k,.int .i64 n,.int .i64 x,.string s,.slice A' l'.length c']∧Below w.heap.size w wr);case atStart=>exact⟨0,by omega,rfl,by omega,rfl,P0.out,P1.out,B0.out⟩
      case round=>
       obtain⟨j,hj,rfl,rfl,hT,hP0,hP1,hbel⟩:=hrel;by_cases hlt:j<l.length
       ·have hlt':j<l'.length:=H5.out▸hlt;obtain⟨b,off,A1,c1,rfl,hb,hI,hs,k0,k1,k2,k3,k4⟩:=(E.out.1.below hbel).bO hlt;obtain⟨b',off',A2,c2,rfl,hb',hI',hs',q0,q1,q2,q3,q4⟩:=(E.out.2.below hbel).bO hlt';have hz0:=hP0.lt;have hz1:=hP1.lt;obtain⟨p0,p1,p2,p3,p4⟩:=hP0.c5;obtain⟨r0,r1,r2,r3,r4⟩:=hP1.c5;have hi1:(j:Int)<l.length:=by omega
        have hi2:(j:Int)<l'.length:=by omega
        have hi3:(0:Int)≤j:=by omega
        have HS:=zZ (zY hs hs');clear hs hs' hI hI';rcases Decidable.em (l[j]=l'[j]) with hq|hq
        ·have HQ:=zZ hq;clear hq;go_wp2_with fail;go_still_tail 10,(by kernel_rfl);change wpList _ _ _ _ _ wr.drew;go_wp2_with fail;refine(IH'.out j hlt l'[j] A1 A2 c1 c2 _ HS.out.1.drew HS.out.2.drew).mono ?_;rintro e w1 ⟨rfl,hb1⟩;rw[decide_eq_true HQ.out];have HB:=zZ hb1;clear hb1;go_wp2_with fail;go_roundg(l.length-(j+1));case measure=>omega
         case rel=>exact⟨j+1,by omega,by go_num,rfl,gp hlt hlt' hT.out HQ.out,hP0.drew.below HB.out,hP1.drew.below HB.out,aj hbel.drew HB.out⟩
        ·have HQ:=zZ hq;clear hq;have hr0:r=false:=by rw[HR.out];simp only[decide_eq_false_iff_not];intro e;injection e with _ _ _ _ e;subst e;exact HQ.out rfl
         subst hr0;go_wp2_with fail;go_still_tail 10,(by kernel_rfl);change wpList _ _ _ _ _ wr.drew;go_wp2_with fail;refine(IH'.out j hlt l'[j] A1 A2 c1 c2 _ HS.out.1.drew HS.out.2.drew).mono ?_;rintro e w1 ⟨rfl,hb1⟩;rw[decide_eq_false HQ.out];have HB:=zZ hb1;clear hb1;go_wp2_with fail;go_ret;exact⟨rfl,aj hbel.drew HB.out⟩
       ·have e:j=l.length:=by omega
        have hr0:r=true:=by have h:=hT.out;rw[e,List.take_length,H5.out,List.take_length] at h;rw[HR.out,h];simp
        subst hr0;obtain⟨p0,p1,p2,p3,p4⟩:=hP0.c5;have hz0:=hP0.lt;have HB:=zZ hbel;clear hbel hP0 hP1 hT;go_wp2_with fail;go_ret;exact⟨rfl,HB.out⟩
     ·have h5':((l.length:Int) != l'.length)=true:=by simp;omega
      have hr0:r=false:=by rw[HR.out];simp only[decide_eq_false_iff_not];intro e;injection e with _ _ _ _ e;exact h5 (by rw[e])
      subst hr0;clear h5;go_enter Tryz.func12,Tryz.ntmps12;go_wp2_with fail;go_ret;exact⟨rfl,B0.out⟩
    ·have h4':=lF h4;have hr0:r=false:=by rw[HR.out];simp only[decide_eq_false_iff_not];intro e;injection e with _ _ _ e _;exact h4 e
     subst hr0;clear h4;go_enter Tryz.func12,Tryz.ntmps12;go_wp2_with fail;go_ret;exact⟨rfl,B0.out⟩
   ·have h3':(x != x')=true:=by simpa using h3
    have hr0:r=false:=by rw[HR.out];simp only[decide_eq_false_iff_not];intro e;injection e with _ _ e _ _;exact h3 e
    subst hr0;clear h3;go_enter Tryz.func12,Tryz.ntmps12;go_wp2_with fail;go_ret;exact⟨rfl,B0.out⟩
  ·have h2':(n != n')=true:=by simpa using h2
   have hr0:r=false:=by rw[HR.out];simp only[decide_eq_false_iff_not];intro e;injection e with _ e _ _ _;exact h2 e
   subst hr0;clear h2;go_enter Tryz.func12,Tryz.ntmps12;go_wp2_with fail;go_ret;exact⟨rfl,B0.out⟩
 ·have h1':(k != k')=true:=by simpa using h1
  have hr0:r=false:=by rw[HR.out];simp only[decide_eq_false_iff_not];intro e;injection e with e _ _ _ _;exact h1 e
  subst hr0;clear h1;go_enter Tryz.func12,Tryz.ntmps12;go_wp2_with fail;go_ret;exact⟨rfl,B0.out⟩
theorem uR(code:List UInt8)(A:Option Addr)(c:Nat)(w:World):Calls Tryz.prog 8 #[.slice A code.length c] w (bY w (.bool (decide (1048576<code.length)))):=by
 by_cases h:1048576<code.length
 ·have h':(1048576:Int)<code.length:=by omega
  rw[decide_eq_true h];go_enter Tryz.func8,Tryz.ntmps8;go_wp2_with fail;go_ret;exact⟨rfl,ae w⟩
 ·have h': ¬((1048576:Int)<code.length):=by omega
  rw[decide_eq_false h];go_enter Tryz.func8,Tryz.ntmps8;go_wp2_with fail;go_ret;exact⟨rfl,ae w⟩
def ma(v:aa):Prop:=valOkP v=true∧eN v
theorem ma.at{v:aa}(h:ma v){i:Nat}(hi:i<v.l.length):ma v.l[i]:=by
 have hk:=bF (aR h.1).2 hi;have hb:=ju hi;have hb2:=h.2.2.2.2.2;have hp:=ff (List.getElem_mem hi);have hp2:=h.2.2.2.2.1;rw[aS] at hp2;have hd:=du (v:=v) (List.getElem_mem hi);have hd2:=h.2.2.2.1;have hs:=au v.l[i];exact⟨hk,dI hk (by unfold maxLen;omega),h.2.2.1.sub.at (List.getElem_mem hi),by omega,by omega,by omega⟩
theorem ma.gv: ∀(p:List GStep){v x:aa},ma v→gv v p=some x→ma x|[],v,x,h,e=>by cases e;exact h|s::p,v,x,h,e=>by rw[Proofs.YtodpdjehjllhdaaGreatDoor.gv] at e;obtain⟨y,hy,e⟩:=Option.bind_eq_some_iff.1 e;obtain⟨i,hi,_,rfl⟩:=ny hy;exact ma.gv p (h.at hi) e
theorem rA{way:Int}{v:aa}(h:valOkP v=true∧1≤way∧way≤4)(L:ag):L∈(aG way v).2↔L∈(projP way v []).2:=by
 unfold aG;rw[if_pos h];exact(bG an (projP way v []).2 []).mem_iff.trans (by simp)
theorem tP{way:Int}{v:aa}{p:List GStep}(hg:eN v)(h:p∈kA way v): ∃x dst,gv v p=some x∧uh way v p=some dst∧gv (aG way v).1 dst=some x∧eN x∧(aG way x).2.length=0∧ ∀L∈(aG way v).2,L.p≠p:=by
 rw[ob] at h;obtain⟨h1,h2⟩:=List.mem_filter.1 h;obtain⟨r,x,rfl,hx⟩:=vI v [] p h1;unfold fK at h2;rw[ry,Bool.and_eq_true,Bool.not_eq_true'] at h2;obtain⟨h3,h4⟩:=h2;have hh:=tV h4;obtain⟨dst,hd⟩:=Option.isSome_iff_exists.1 h3;have hc:valOkP v=true∧1≤way∧way≤4:=by unfold uh at hd;split at hd;(·assumption);·cases hd
 have hw:aL way v p=some dst:=by unfold uh at hd;rw[if_pos hc] at hd;exact hd
 obtain⟨k1,k2⟩:=tp way v hc.1 [] p x dst hx hw fun L hL=>by rw[List.nil_append];exact hh L ((rA hc L).2 hL)
 have hfx:=ma.gv p ⟨hc.1,hg⟩ hx;refine⟨x,dst,hx,hd,?_,hfx.2,?_,fun L hL e=>hh L hL (e▸List.prefix_refl _)⟩;·unfold aG;rw[if_pos hc];exact k1
 ·unfold aG;rw[if_pos ⟨hfx.1,hc.2⟩,k2];rfl
theorem mW(xs ys:List GStep)(A A':Option Addr)(c c':Nat)(w:World)(hx:SA w xs A c)(hy:SA w ys A' c'):Calls Tryz.prog 24 #[.slice A xs.length c,.slice A' ys.length c'] w (gL w (.bool (decide (xs=ys)))):=by
 obtain⟨r,hr⟩: ∃r,r=decide (xs=ys):=⟨_,rfl⟩;rw[←hr];have R:=zZ hr;clear hr;have hl:xs.length≤9223372036854775807:=by have:=hx.len;unfold maxLen at this;omega
 have hl':ys.length≤9223372036854775807:=by have:=hy.len;unfold maxLen at this;omega
 have E:=zZ (zY hx hy);clear hx hy;by_cases he:xs.length=ys.length
 ·have he':((xs.length:Int) != ys.length)=false:=by simp[he]
  have HE:=zZ he;clear he;go_enter Tryz.func24,Tryz.ntmps24;go_wp2_with fail;go_loopg[5] xs.length (fun gk i wr=> ∃k:Nat,k≤xs.length∧i=.int .i64 k∧gk=xs.length-k∧Hid (xs.take k=ys.take k)∧ ∃n,wr=w.drewN n);case atStart=>exact⟨0,by omega,rfl,by omega,rfl,0,rfl⟩
  case round=>
   obtain⟨k,hk,rfl,rfl,hT,nd,rfl⟩:=hrel;by_cases hlt:k<xs.length
   ·obtain⟨b,off,rfl,hb,hI,k0,k1⟩:=E.out.1.df hlt;have hlt':k<ys.length:=HE.out▸hlt;obtain⟨b',off',rfl,hb',hI',k0',k1'⟩:=E.out.2.df hlt';have hi1:(k:Int)<xs.length:=by omega
    have hi2:(k:Int)<ys.length:=by omega
    have hi3:(0:Int)≤k:=by omega
    rcases Decidable.em (xs[k]=ys[k]) with hq|hq
    ·have hne:=dt (x:=xs[k]) (y:=ys[k]) hq;have HQ:=zZ hq;clear hq;go_wp2_with fail;go_quiet(fail);go_wp2_with fail;go_roundg(xs.length-(k+1));case measure=>omega
     case rel=>exact⟨k+1,by omega,by go_num,rfl,ig hlt hlt' hT.out HQ.out,by first|exact⟨_,rfl⟩|exact jE _ _ _⟩
    ·have hne:=cX (x:=xs[k]) (y:=ys[k]) hq;have HQ:=zZ hq;clear hq;go_wp2_with fail;go_quiet(fail);go_wp2_with fail;go_ret;exact⟨by rw[R.out,decide_eq_false (fun h=>HQ.out (by subst h;rfl))];rfl,by first|exact⟨_,rfl⟩|exact jE _ _ _⟩
   ·have e:k=xs.length:=by omega
    go_wp2_with fail;go_ret;exact⟨by rw[R.out,decide_eq_true (iO e HE.out hT.out)];rfl,_,rfl⟩
 ·have he':((xs.length:Int) != ys.length)=true:=by simp;omega
  go_enter Tryz.func24,Tryz.ntmps24;go_wp2_with fail;go_ret;exact⟨by rw[R.out,decide_eq_false (fun h=>he (by rw[h]))];rfl,0,rfl⟩
end Go.Proofs.YtodpdjehjllhdaaGreatDoor
