/- Part of a proof: contracts and plain laws. -/
import Derived.Test.YtodpdjehjllhdaaGreatDoorK04
set_option linter.unusedVariables false
set_option linter.unusedSimpArgs false
set_option maxRecDepth 100000
set_option maxHeartbeats 20000000
namespace Go.Proofs.YtodpdjehjllhdaaGreatDoor
open Go.RowKit
section
def a6(base:Nat)(vs:List Value)(w:World)(b:Nat):Prop:=qz base w b∧ ∀v∈vs,v.ownBlock≠some b
def kt(u v:Value):Prop:= ∀g,u.ownBlock=some g→v.ownBlock≠some g
theorem kt.symm{u v:Value}(h:kt u v):kt v u:=fun g h1 h2=>h g h2 h1
theorem a6.below{base:Nat}{vs:List Value}{w w':World}{b:Nat}(h:a6 base vs w b)(hs:w.heap.size≤w'.heap.size):a6 base vs w' b:=⟨⟨h.1.1,Nat.lt_of_lt_of_le h.1.2 hs⟩,h.2⟩
theorem a6.sub{base:Nat}{vs vs':List Value}{w:World}{b:Nat}(h:a6 base vs w b)(hs: ∀v∈vs',v∈vs):a6 base vs' w b:=⟨h.1,fun v hv=>h.2 v (hs v hv)⟩
theorem a6.grown{base:Nat}{vs vs':List Value}{W w':World}{v v':Value}{b:Nat}(h:a6 base vs W b)(hs:W.heap.size≤w'.heap.size)(hv:v∈vs)(hat:v'.ownBlock=v.ownBlock∨v'.ownBlock=some W.heap.size)(hvs: ∀x∈vs',x∈vs∨x=v'):a6 base vs' w' b:=by
 refine⟨⟨h.1.1,Nat.lt_of_lt_of_le h.1.2 hs⟩,fun x hx=> ?_⟩;rcases hvs x hx with hx|rfl;·exact h.2 x hx
 ·rcases hat with e|e;·rw[e];exact h.2 v hv
  ·rw[e];intro e';injection e' with e';have:=h.1.2;omega
section
variable {α β γ : Type} [aE α] [aE β] [aE γ] {w w' W : World} {base : Nat} {t t1 t2 t3 : TypeId} {u v v' v1 v2 v3 : Value} {vs vs' : List Value} {l : List α} {l1 : List α} {l2 : List β} {l3 : List γ}
def bl(w:World)(base:Nat)(t:TypeId)(v:Value)(l:List α)(vs:List Value):Prop:=aA w base t v l (a6 base vs w)
theorem bl.below(h:bl w base t v l vs)(hb:Below w.heap.size w w'):bl w' base t v l vs:=aA.mono (aA.ak h hb fun b hb=>hb.1.2) fun b h=>h.below hb.size
theorem bl.cK(h:bl w base t v l vs):aQ w base t v l:=aA.mono h fun b hb=>hb.1
theorem bl.other(h:bl W base t u l vs)(hv:v∈vs)(hg:W.grownBy w' v.ownBlock)(hat:v'.ownBlock=v.ownBlock∨v'.ownBlock=some W.heap.size)(hu:kt u v)(hvs: ∀x∈vs',x∈vs∨x=v'):bl w' base t u l vs':=by
 obtain⟨F,hC,hF⟩:=h;have hgl:=hC.aq;obtain⟨xs,h1,h2,h3⟩:=hC;refine⟨F,⟨xs,?_,h2.ak fun b hb=>hg.block b (hF b hb).1.2 (fun e=>(hF b hb).2 v hv e.symm),h3⟩,fun b hb=>(hF b hb).grown hg.size hv hat hvs⟩;obtain⟨h4,h5⟩:=h1;refine⟨h4,?_⟩;rcases h5 with h5|⟨g,cap,cur,rfl,hb,hh,h6⟩;·exact .inl h5
 ·refine .inr ⟨g,cap,cur,rfl,hb,?_,h6⟩;have hlt:=(hgl g rfl).2;exact(hg.block g hlt (fun e=>hu g rfl e.symm)).trans hh
theorem bl.app(h:jn W base t v l (a6 base vs W) v' w')(hv:v∈vs)(hvs: ∀x∈vs',x∈vs∨x=v'):bl w' base t v' l vs':=aA.mono h.1 fun b hb=>hb.grown h.2.1.size hv h.2.2.1 hvs
theorem kt.grown(h:kt u v)(hu: ∀g,u.ownBlock=some g→g<W.heap.size)(hat:v'.ownBlock=v.ownBlock∨v'.ownBlock=some W.heap.size):kt u v':=by
 intro g hg e;rcases hat with e'|e';·rw[e'] at e;exact h g hg e
 ·rw[e'] at e;injection e with e;have:=hu g hg;omega
def de(w:World)(base:Nat)(t1 t2:TypeId)(v1 v2:Value)(l1:List α)(l2:List β):Prop:=bl w base t1 v1 l1 [v1,v2]∧bl w base t2 v2 l2 [v1,v2]∧kt v1 v2
def dM(w:World)(base:Nat)(t1 t2 t3:TypeId)(v1 v2 v3:Value)(l1:List α)(l2:List β)(l3:List γ):Prop:=bl w base t1 v1 l1 [v1,v2,v3]∧bl w base t2 v2 l2 [v1,v2,v3]∧bl w base t3 v3 l3 [v1,v2,v3]∧kt v1 v2∧kt v1 v3∧kt v2 v3
theorem de.below(h:de w base t1 t2 v1 v2 l1 l2)(hb:Below w.heap.size w w'):de w' base t1 t2 v1 v2 l1 l2:=⟨h.1.below hb,h.2.1.below hb,h.2.2⟩
theorem dM.below(h:dM w base t1 t2 t3 v1 v2 v3 l1 l2 l3)(hb:Below w.heap.size w w'):dM w' base t1 t2 t3 v1 v2 v3 l1 l2 l3:=⟨h.1.below hb,h.2.1.below hb,h.2.2.1.below hb,h.2.2.2⟩
theorem de.tC{l1':List α}(h:de W base t1 t2 v1 v2 l1 l2)(ha:jn W base t1 v1 l1' (a6 base [v1,v2] W) v' w'):de w' base t1 t2 v' v2 l1' l2:=by
 obtain⟨h1,h2,h3⟩:=h;exact⟨bl.app ha (by simp) (by simp),bl.other h2 (v:=v1) (v':=v') (by simp) ha.2.2.2 ha.2.2.1 h3.symm (by simp),(kt.grown h3.symm (fun g hg=>(h2.cK.aq g hg).2) ha.2.2.1).symm⟩
theorem de.nu{l2':List β}(h:de W base t1 t2 v1 v2 l1 l2)(ha:jn W base t2 v2 l2' (a6 base [v1,v2] W) v' w'):de w' base t1 t2 v1 v' l1 l2':=by
 obtain⟨h1,h2,h3⟩:=h;exact⟨bl.other h1 (v:=v2) (v':=v') (by simp) ha.2.2.2 ha.2.2.1 h3 (by simp),bl.app ha (by simp) (by simp),kt.grown h3 (fun g hg=>(h1.cK.aq g hg).2) ha.2.2.1⟩
theorem dM.tC{l1':List α}(h:dM W base t1 t2 t3 v1 v2 v3 l1 l2 l3)(ha:jn W base t1 v1 l1' (a6 base [v1,v2,v3] W) v' w'):dM w' base t1 t2 t3 v' v2 v3 l1' l2 l3:=by
 obtain⟨h1,h2,h3,h12,h13,h23⟩:=h;exact⟨bl.app ha (by simp) (by simp),bl.other h2 (v:=v1) (v':=v') (by simp) ha.2.2.2 ha.2.2.1 h12.symm (by simp),bl.other h3 (v:=v1) (v':=v') (by simp) ha.2.2.2 ha.2.2.1 h13.symm (by simp),(kt.grown h12.symm (fun g hg=>(h2.cK.aq g hg).2) ha.2.2.1).symm,(kt.grown h13.symm (fun g hg=>(h3.cK.aq g hg).2) ha.2.2.1).symm,h23⟩
theorem dM.nu{l2':List β}(h:dM W base t1 t2 t3 v1 v2 v3 l1 l2 l3)(ha:jn W base t2 v2 l2' (a6 base [v1,v2,v3] W) v' w'):dM w' base t1 t2 t3 v1 v' v3 l1 l2' l3:=by
 obtain⟨h1,h2,h3,h12,h13,h23⟩:=h;exact⟨bl.other h1 (v:=v2) (v':=v') (by simp) ha.2.2.2 ha.2.2.1 h12 (by simp),bl.app ha (by simp) (by simp),bl.other h3 (v:=v2) (v':=v') (by simp) ha.2.2.2 ha.2.2.1 h23.symm (by simp),kt.grown h12 (fun g hg=>(h1.cK.aq g hg).2) ha.2.2.1,h13,(kt.grown h23.symm (fun g hg=>(h3.cK.aq g hg).2) ha.2.2.1).symm⟩
theorem dM.zh{l3':List γ}(h:dM W base t1 t2 t3 v1 v2 v3 l1 l2 l3)(ha:jn W base t3 v3 l3' (a6 base [v1,v2,v3] W) v' w'):dM w' base t1 t2 t3 v1 v2 v' l1 l2 l3':=by
 obtain⟨h1,h2,h3,h12,h13,h23⟩:=h;exact⟨bl.other h1 (v:=v3) (v':=v') (by simp) ha.2.2.2 ha.2.2.1 h13 (by simp),bl.other h2 (v:=v3) (v':=v') (by simp) ha.2.2.2 ha.2.2.1 h23 (by simp),bl.app ha (by simp) (by simp),h12,kt.grown h13 (fun g hg=>(h1.cK.aq g hg).2) ha.2.2.1,kt.grown h23 (fun g hg=>(h2.cK.aq g hg).2) ha.2.2.1⟩
theorem aA.uY{S:Nat→Prop}(h:aA w base t v l S): ∃A c,v=.slice A l.length c∧((A=none∧c=0)∨ ∃g,A=some ⟨g,0,none⟩):=by
 obtain⟨F,⟨xs,⟨h0,h1⟩,_⟩,_⟩:=h;rcases h1 with⟨rfl,hn⟩|⟨g,cap,cur,rfl,_⟩;·exact⟨none,0,by rw[hn],.inl ⟨rfl,rfl⟩⟩
 ·exact⟨_,_,rfl,.inr ⟨g,rfl⟩⟩
theorem SS.zy{S:Nat→Prop}{A:Option Addr}{n:Nat}(h:n≤maxLen)(hA:A=none→n=0):SS w S ([]:List α) A n:=⟨[],⟨by simp,h,.inl ⟨rfl,rfl,hA⟩⟩,by simp⟩
theorem bl.lit(w:World)(t:TypeId)(base g:Nat)(vs:List Value)(hg:g=w.heap.size)(hb:base≤w.heap.size):bl (α:=α) (w.alloc (.cells #[] t)) base t (.slice (some ⟨g,0,none⟩) 0 0) [] vs:=hg▸aA.qE w t base hb _
theorem js{g g':Nat}(h:g≠g')(n n' c c':Nat):kt (.slice (some ⟨g,0,none⟩) n c) (.slice (some ⟨g',0,none⟩) n' c'):=by
 intro b hb e;simp only[Value.ownBlock,Option.some.injEq] at hb e;omega
theorem bl.ym(w:World)(base:Nat)(t:TypeId)(vs:List Value):bl (α:=α) w base t (.slice none 0 0) [] vs:=⟨[],⟨[],World.ownsRow_nil w base t _,⟨rfl,rfl⟩,by simp⟩,by simp⟩
theorem de.start(w:World)(t1 t2:TypeId)(base g:Nat)(hb:base≤w.heap.size)(hg:g=w.heap.size):de (α:=α) (β:=β) (w.alloc (.cells #[] t2)) base t1 t2 (.slice none 0 0) (.slice (some ⟨g,0,none⟩) 0 0) [] []:=⟨bl.ym _ _ _ _,bl.lit w t2 base g _ hg hb,fun b hb=>by simp[Value.ownBlock] at hb⟩
theorem dM.start(w:World)(t1 t2 t3:TypeId)(base g1 g2 g3:Nat)(hb:base≤w.heap.size)(h1:g1=w.heap.size)(h2:g2=w.heap.size+1)(h3:g3=w.heap.size+1+1):dM (α:=α) (β:=β) (γ:=γ) (((w.alloc (.cells #[] t1)).alloc (.cells #[] t2)).alloc (.cells #[] t3)) base t1 t2 t3 (.slice (some ⟨g1,0,none⟩) 0 0) (.slice (some ⟨g2,0,none⟩) 0 0) (.slice (some ⟨g3,0,none⟩) 0 0) [] [] []:=by
 refine⟨(bl.lit w t1 base g1 _ h1 hb).below (ab (ab (ae _) _) _),(bl.lit (w.alloc (.cells #[] t1)) t2 base g2 _ (by simp;omega) (by simp;omega)).below (ab (ae _) _),bl.lit _ t3 base g3 _ (by simp;omega) (by simp;omega),js (by omega) _ _ _ _,js (by omega) _ _ _ _,js (by omega) _ _ _ _⟩
theorem aQ.th(w:World)(t:TypeId)(base g:Nat)(hg:g=w.heap.size)(hb:base≤w.heap.size):aQ (α:=α) (w.alloc (.cells #[] t)) base t (.slice (some ⟨g,0,none⟩) 0 0) []:=hg▸aQ.qE w t base hb
theorem aQ.mono{base':Nat}(h:aQ w base t v l)(hb:base'≤base):aQ w base' t v l:=by
 obtain⟨F,⟨xs,⟨h3,h4⟩,h5,h6⟩,h7⟩:=h;refine⟨F,⟨xs,⟨h3,?_⟩,h5,h6⟩,fun b hb'=>⟨Nat.le_trans hb (h7 b hb').1,(h7 b hb').2⟩⟩;rcases h4 with h4|⟨g,cap,cur,e,h8,h9⟩;·exact .inl h4
 ·exact .inr ⟨g,cap,cur,e,Nat.le_trans hb h8,h9⟩
theorem Kept.grown{F:List Nat}{a:World}{row:Option Nat}(h:Kept F a W)(hg:W.grownBy w' row)(hr: ∀g,row=some g→a.heap.size≤g):Kept F a w':=⟨hg.os.trans h.1,hg.tape.trans h.2.1,hg.output.trans h.2.2.1,Nat.le_trans h.2.2.2.1 hg.size,fun b hb hn=>(hg.block b (Nat.lt_of_lt_of_le hb h.2.2.2.1) (fun e=>by have:=hr b e.symm;omega)).trans (h.2.2.2.2 b hb hn)⟩
theorem iP{B:Nat}(hat:v'.ownBlock=v.ownBlock∨v'.ownBlock=some W.heap.size)(hv: ∀g,v.ownBlock=some g→B≤g)(hW:B≤W.heap.size): ∀g,v'.ownBlock=some g→B≤g:=by
 intro g hg;rcases hat with e|e;·exact hv g (e▸hg)
 ·rw[e] at hg;injection hg with hg;omega
def bJ(w:World)(g:Nat)(a b c d e:Value):World:=((((w.setCell ⟨g,0,none⟩ a).setCell ⟨g,1,none⟩ b).setCell ⟨g,2,none⟩ c).setCell ⟨g,3,none⟩ d).setCell ⟨g,4,none⟩ e
theorem cA{g:Nat}{x0 x1 x2 x3 x4:Value}(h:aj w g t #[x0,x1,x2,x3,x4])(a b c d e:Value):aj (bJ w g a b c d e) g t #[a,b,c,d,e]:=((((h.cT 0 a).cT 1 b).cT 2 c).cT 3 d).cT 4 e
theorem aK(g:Nat)(a b c d e:Value):(bJ w g a b c d e).heap.size=w.heap.size:=by
 simp[bJ,World.setCell]
theorem nK{g:Nat}(a b c d e:Value){k:Nat}(hk:k≠g):(bJ w g a b c d e).heap[k]? =w.heap[k]? :=by
 unfold bJ;rw[Below.heap_setCell _ _ _ k (by exact hk),Below.heap_setCell _ _ _ k (by exact hk),Below.heap_setCell _ _ _ k (by exact hk),Below.heap_setCell _ _ _ k (by exact hk),Below.heap_setCell _ _ _ k (by exact hk)]
theorem aw{B g:Nat}{W:World}(h:Below B W w)(hg:B≤g)(a b c d e:Value):Below B W (bJ w g a b c d e):=((((h.setCell hg a).setCell hg b).setCell hg c).setCell hg d).setCell hg e
theorem SB.bG{base':Nat}{A:Option Addr}{n:Nat}(h:SB base w l A n){g:Nat}(hg:g<base)(hb:base'≤base)(a b c d e:Value):SB base' (bJ w g a b c d e) l A n:=SS.ak h (fun k hk=>nK a b c d e (by have:=hk.1;omega)) (fun k hk=>⟨Nat.le_trans hb hk.1,by rw[aK];exact hk.2⟩)
theorem aQ.bG{base':Nat}(h:aQ w base t v l){g:Nat}(hg:g<base)(hb:base'≤base)(a b c d e:Value):aQ (bJ w g a b c d e) base' t v l:=aQ.mono (((((h.set (p:=⟨g,0,none⟩) hg a).set (p:=⟨g,1,none⟩) hg b).set (p:=⟨g,2,none⟩) hg c).set (p:=⟨g,3,none⟩) hg d).set (p:=⟨g,4,none⟩) hg e) hb
theorem qz.free{w0 w':World}{b:Nat}(h:qz w0.heap.size w' b)(hbase:base≤w0.heap.size)(hvs: ∀v∈vs,∀g,v.ownBlock=some g→g<w0.heap.size):a6 base vs w' b:=⟨⟨Nat.le_trans hbase h.1,h.2⟩,fun v hv e=>by have:=hvs v hv b e;have:=h.1;omega⟩
theorem SS.cV{S S':Nat→Prop}{A:Option Addr}{n:Nat}(h:SS w S l A n){g:Nat}(hg: ∀b,S b→b≠g)(hS: ∀b,S b→S' b)(a b c d e:Value):SS (bJ w g a b c d e) S' l A n:=SS.ak h (fun k hk=>nK a b c d e (hg k hk)) hS
theorem bl.set(h:bl w base t v l vs){p:Addr}(hp:p.block<base)(u:Value):bl (w.setCell p u) base t v l vs:=by
 obtain⟨F,h1,h2⟩:=h;obtain⟨xs,h3,h4,h5⟩:=h1;refine⟨F,⟨xs,?_,h4.ak fun b hb=>Below.heap_setCell w p u b (fun e=>by have:=(h2 b hb).1.1;omega),h5⟩,fun b hb=>(h2 b hb).below (by simp[World.setCell])⟩;obtain⟨h6,h7⟩:=h3;refine⟨h6,?_⟩;rcases h7 with h7|⟨g,cap,cur,rfl,hb,hh,h8⟩;·exact .inl h7
 ·exact .inr ⟨g,cap,cur,rfl,hb,(Below.heap_setCell w p u g (fun e=>by omega)).trans hh,h8⟩
theorem de.set(h:de w base t1 t2 v1 v2 l1 l2){p:Addr}(hp:p.block<base)(u:Value):de (w.setCell p u) base t1 t2 v1 v2 l1 l2:=⟨h.1.set hp u,h.2.1.set hp u,h.2.2⟩
theorem SS.zO{A:Option Addr}{n:Nat}(h:SS w (a6 base vs w) l A n){p:Addr}(hp:p.block<base)(u:Value):SS (w.setCell p u) (a6 base vs (w.setCell p u)) l A n:=SS.ak h (fun b hb=>Below.heap_setCell w p u b (fun e=>by have:=hb.1.1;omega)) (fun b hb=>hb.below (by simp[World.setCell]))
theorem SS.pe{l':List β}{A:Option Addr}{n:Nat}{S:Nat→Prop}(h:SS W (a6 base vs W) l A n)(ha:jn W base t v l' S v' w')(hv:v∈vs)(hvs: ∀x∈vs',x∈vs∨x=v'):SS w' (a6 base vs' w') l A n:=SS.ak h (fun b hb=>ha.2.2.2.block b hb.1.2 (fun e=>hb.2 v hv e.symm)) (fun b hb=>hb.grown ha.2.1.size hv ha.2.2.1 hvs)
theorem SS.ba{A:Option Addr}{n:Nat}(h:SS w (a6 base vs w) l A n)(hb:Below w.heap.size w w'):SS w' (a6 base vs w') l A n:=SS.ak h (fun b h=>hb.block b h.1.2) (fun b h=>h.below hb.size)
theorem SB.free{base0:Nat}{A:Option Addr}{n:Nat}{w0:World}(h:SB w0.heap.size w l A n)(hbase:base0≤w0.heap.size)(hvs: ∀v∈vs,∀g,v.ownBlock=some g→g<w0.heap.size):SS w (a6 base0 vs w) l A n:=SS.ak h (fun _ _=>rfl) (fun b hb=>qz.free hb hbase hvs)
theorem RS.val{S:Nat→Prop}{v:aa}{A:Option Addr}{c:Nat}(hI:bC v)(h:SS w S v.l A c):RS w S v [.int .i64 v.kind,.int .i64 v.n,.int .i64 v.x,.string v.s,.slice A v.l.length c]:=by
 obtain⟨F,h1,h2⟩:=h;exact⟨F,dk.2 ⟨A,c,rfl,hI,h1⟩,h2⟩
theorem RS.mQ{S:Nat→Prop}{x:ag}{A:Option Addr}{c:Nat}(hI:a8 x.kind)(h:SS w S x.p A c):RS w S x [.int .i64 x.kind,.slice A x.p.length c]:=by
 obtain⟨F,h1,h2⟩:=h;exact⟨F,⟨A,c,rfl,hI,h1⟩,h2⟩
theorem RS.int{S:Nat→Prop}{n:Int}(hI:a8 n):RS w S n [.int .i64 n]:=⟨[],⟨rfl,rfl,hI⟩,by simp⟩
theorem SS.ze{S S':Nat→Prop}{A:Option Addr}{n:Nat}(h:SS w S ([]:List α) A n):SS w' S' ([]:List α) A n:=by
 obtain⟨F,⟨h1,h2,h3⟩,_⟩:=h;refine⟨[],⟨h1,h2,.inl ⟨rfl,rfl,?_⟩⟩,by simp⟩;rcases h3 with⟨_,_,h⟩|⟨b,off,F',xs,rfl,_⟩;·exact h
 ·intro e;cases e
theorem a6.sb{vs:List Value}{A:Option Addr}{n:Nat}(h:SS w (a6 base vs w) l A n):SB base w l A n:=SS.ak h (fun _ _=>rfl) (fun b hb=>hb.1)
theorem de.lt(h:de w base t1 t2 v1 v2 l1 l2): ∀v∈[v1,v2],∀g,v.ownBlock=some g→g<w.heap.size:=by
 intro v hv g hg;simp only[List.mem_cons,List.not_mem_nil,or_false] at hv;rcases hv with rfl|rfl;·exact(h.1.cK.aq g hg).2
 ·exact(h.2.1.cK.aq g hg).2
theorem dM.lt(h:dM w base t1 t2 t3 v1 v2 v3 l1 l2 l3): ∀v∈[v1,v2,v3],∀g,v.ownBlock=some g→g<w.heap.size:=by
 intro v hv g hg;simp only[List.mem_cons,List.not_mem_nil,or_false] at hv;rcases hv with rfl|rfl|rfl;·exact(h.1.cK.aq g hg).2
 ·exact(h.2.1.cK.aq g hg).2
 ·exact(h.2.2.1.cK.aq g hg).2
variable {P : Program}
theorem bW(vs:List Value)(t ty:TypeId)(base:Nat)(e:TypeId)(z:Value)(bytes:Nat)(ht:P.underlying t=some (.slice e))(hinfo:(P.info? e).map (fun i=>(i.zero,i.size,i.bytes))=some (some z,aE.wd α,bytes))(hzs:z.cells.size=aE.wd α)(hsz:0<aE.wd α)(v:Value)(l:List α)(el:α)(cs:List Value)(ad:Addr)(c:Nat)(hown:bl W base e v l vs)(hv:v∈vs)(hr:RS W (a6 base vs W) el cs)(hcells: ∀j u,cs[j]? =some u→W.cell? (ad.add j)=some u)(hbytes:(l.length+1)*bytes≤140737488355328)(h63:l.length+1≤maxLen)(hbW:base≤W.heap.size): ∃v' w',(Builtin.append_ #[t,t] ty #[v,.slice (some ad) 1 c]).run P W=.ok v' w'∧jn W base e v (l++[el]) (a6 base vs W) v' w':=gf t ty base e z bytes ht hinfo hzs hsz v l el cs ad c _ hown (fun b hb=>⟨hb.1.2,hb.2 v hv⟩) hr hcells hbytes h63 hbW
theorem eg(vs:List Value)(t ty:TypeId)(base:Nat)(e:TypeId)(z:Value)(bytes:Nat)(ht:P.underlying t=some (.slice e))(hinfo:(P.info? e).map (fun i=>(i.zero,i.size,i.bytes))=some (some z,aE.wd α,bytes))(hzs:z.cells.size=aE.wd α)(hsz:0<aE.wd α)(v:Value)(l ys:List α)(A:Option Addr)(n c:Nat)(hn:n=ys.length)(hown:bl W base e v l vs)(hv:v∈vs)(hr:SS W (a6 base vs W) ys A c)(hbytes:(l.length+ys.length)*bytes≤140737488355328)(h63:l.length+ys.length≤maxLen)(hbW:base≤W.heap.size): ∃v' w',(Builtin.append_ #[t,t] ty #[v,.slice A n c]).run P W=.ok v' w'∧jn W base e v (l++ys) (a6 base vs W) v' w':=by
 subst hn;exact pS t ty base e z bytes ht hinfo hzs hsz v l ys A c _ _ hown (fun b hb=>⟨hb.1.2,hb.2 v hv⟩) hr (fun F xs _ h=>h) hbytes h63 hbW
theorem nY(vs:List Value)(t ty:TypeId)(base:Nat)(e:TypeId)(z:Value)(bytes:Nat)(ht:P.underlying t=some (.slice e))(hinfo:(P.info? e).map (fun i=>(i.zero,i.size,i.bytes))=some (some z,aE.wd α,bytes))(hzs:z.cells.size=aE.wd α)(hsz:0<aE.wd α)(v:Value)(l:List α)(x y:α)(cx cy:List Value)(ad:Addr)(c:Nat)(hown:bl W base e v l vs)(hv:v∈vs)(hx:RS W (a6 base vs W) x cx)(hy:RS W (a6 base vs W) y cy)(hcells: ∀j u,(cx++cy)[j]? =some u→W.cell? (ad.add j)=some u)(hbytes:(l.length+2)*bytes≤140737488355328)(h63:l.length+2≤maxLen)(hbW:base≤W.heap.size): ∃v' w',(Builtin.append_ #[t,t] ty #[v,.slice (some ad) 2 c]).run P W=.ok v' w'∧jn W base e v (l++[x,y]) (a6 base vs W) v' w':=by
 obtain⟨FX,hX,hFX⟩:=hx;obtain⟨FY,hY,hFY⟩:=hy;have hel:aN W [x,y] (FX++FY) (cx++cy):=⟨FX,FY,cx,cy,rfl,rfl,hX,⟨FY,[],cy,[],by simp,by simp,hY,⟨rfl,rfl⟩⟩⟩;obtain⟨i,hi,hz,hsize,hby⟩:=info_parts hinfo;obtain⟨F,hC,hlt⟩:=hown;have hgl:=hC.aq;obtain⟨xs,h1,h2,h3⟩:=hC;have hS: ∀b,b∈FX++FY→a6 base vs W b:=fun b hm=>by rcases List.mem_append.1 hm with hm|hm;(·exact hFX b hm);·exact hFY b hm
 have hF: ∀g,v.ownBlock=some g→g∉FX++FY:=fun g hg hm=>(hS g hm).2 v hv hg;have hltS: ∀b,b∈F++(FX++FY)→a6 base vs W b:=fun b hm=>by rcases List.mem_append.1 hm with hm|hm;(·exact hlt b hm);·exact hS b hm
 obtain⟨v',w',hrun,h4,h5,_,h6⟩:=run_append_own_at (P:=P) W base t ty e i z (aE.wd α) bytes ht hi hz hsize hby hzs hsz v l.length xs h1 ad 2 c (cx++cy) hel.len hcells hel.one h63 hbytes hbW;exact⟨v',w',hrun,⟨F++(FX++FY),dt.grown h2 h3 hel hF (fun b hb=>(hltS b hb).1.2) h4 h5 h6,hltS⟩,bK h5 hbW fun k hk=>(hgl k hk).1,h6,h5⟩
end
def iR(tl:TypeId)(w:World)(t:aa)(ls:List ag)(e:Ending)(w':World):Prop:= ∃A c v,e=.returned (.tuple #[eL t A c,v])∧SS w' (a6 w.heap.size [v] w') t.l A c∧aQ w' w.heap.size tl v ls∧Below w.heap.size w w'
end
theorem oA: ∀(r:List (aa×List ag))(k i:Nat)(h:i<(aO r k).length)(h0:2*i<r.length)(h1:2*i+1<r.length),(aO r k)[i]=⟨k+i,r[2*i].1,r[2*i].2,r[2*i+1].1,r[2*i+1].2⟩|a::b::l,k,0,_,_,_=>by simp[aO]|a::b::l,k,i+1,h,h0,h1=>by have ih:=oA l (k+1) i (by simpa[aO] using h) (by simp at h0;omega) (by simp at h1;omega);simp only[aO,List.getElem_cons_succ,ih];simp only[show 2*(i+1)=2*i+1+1 by omega,List.getElem_cons_succ,show k+1+i=k+(i+1) by omega]|[a],k,i,h,_,_=>by simp[aO] at h|[],k,i,h,_,_=>by simp[aO] at h
def bH(way:Int)(l:List aa)(p:List GStep):List ah:=aO (projL way 10 l 0 p) 0
theorem bY(way:Int)(l:List aa)(p:List GStep):(bH way l p).length=l.length/2:=by
 unfold bH;rw[jY,cw]
theorem nE(i:Nat):gN 10 (2*i)=⟨(i:Int),true⟩:=by
 unfold gN;rw[if_pos rfl,show 2*i/2=i by omega];simp
theorem vf(i:Nat):gN 10 (2*i+1)=⟨(i:Int),false⟩:=by
 unfold gN;rw[if_pos rfl,show(2*i+1)/2=i by omega];simp
theorem fv(way:Int)(l:List aa)(p:List GStep){i:Nat}(h:i<(bH way l p).length)(h0:2*i<l.length)(h1:2*i+1<l.length):(bH way l p)[i].at_=i∧((bH way l p)[i].name,(bH way l p)[i].nl)=cU way 10 l[2*i] (2*i) p∧((bH way l p)[i].val,(bH way l p)[i].vl)=projP way l[2*i+1] (p++[⟨(i:Int),false⟩]):=by
 have e:=oA (projL way 10 l 0 p) 0 i h (by rw[cw];exact h0) (by rw[cw];exact h1);unfold bH;rw[e,dw way 10 p l 0 (2*i) h0,dw way 10 p l 0 (2*i+1) h1];refine⟨by simp,by simp,?_⟩;simp only[Nat.zero_add];unfold cU;rw[if_neg (by omega),vf]
theorem iV{way:Int}{l:List aa}{p:List GStep}{i:Nat}(h:i<(bH way l p).length)(h0:2*i<l.length)(h1:2*i+1<l.length)(hw:aV way=true):(bH way l p)[i].name=fQ l[2*i]∧(bH way l p)[i].nl=if l[2*i].kind=7 then[] else[⟨7,p++[⟨(i:Int),true⟩]⟩]:=by
 have e:=(fv way l p h h0 h1).2.1;unfold cU at e;rw[if_pos ⟨rfl,by omega,hw⟩,nE] at e;injection e with e1 e2;exact⟨e1,e2⟩
theorem fR{way:Int}{l:List aa}{p:List GStep}{i:Nat}(h:i<(bH way l p).length)(h0:2*i<l.length)(h1:2*i+1<l.length)(hw:aV way=false):(bH way l p)[i].name=(projP way l[2*i] (p++[⟨(i:Int),true⟩])).1∧(bH way l p)[i].nl=(projP way l[2*i] (p++[⟨(i:Int),true⟩])).2:=by
 have e:=(fv way l p h h0 h1).2.1;unfold cU at e;rw[if_neg (by rw[hw];simp),nE] at e;exact⟨congrArg Prod.fst e,congrArg Prod.snd e⟩
def eN(cs:List ah)(n:Nat):List Int:=(List.range n).map fun i=>(((cs.take i).flatMap (·.nl)).length:Int)
theorem nJ(cs:List ah)(n:Nat):eN cs (n+1)=eN cs n++[(((cs.take n).flatMap (·.nl)).length:Int)]:=by
 unfold eN;rw[List.range_succ,List.map_append];rfl
theorem fP(cs:List ah)(n:Nat):(eN cs n).length=n:=by
 unfold eN;simp
theorem xi(cs:List ah)(n:Nat){i:Nat}(h:i<(eN cs n).length):(eN cs n)[i]=(((cs.take i).flatMap (·.nl)).length:Int):=by
 unfold eN;simp
theorem tI{cs:List ah}{i:Nat}(h:i<cs.length):(cs.take (i+1)).map ah.name=(cs.take i).map ah.name++[cs[i].name]:=by
 rw[List.take_succ_eq_append_getElem h,List.map_append];rfl
theorem qJ{cs:List ah}{i:Nat}(h:i<cs.length):(cs.take (i+1)).flatMap (·.nl)=(cs.take i).flatMap (·.nl)++cs[i].nl:=by
 rw[List.take_succ_eq_append_getElem h,List.flatMap_append];simp
theorem yK{cs:List ah}{i:Nat}(h:i<cs.length): ∃a b,cs.flatMap (·.nl)=a++cs[i].nl++b∧a=(cs.take i).flatMap (·.nl):=by
 refine⟨(cs.take i).flatMap (·.nl),(cs.drop (i+1)).flatMap (·.nl),?_,rfl⟩;rw[←qJ h,←List.flatMap_append,List.take_append_drop]
def iG(p:List GStep)(cs:List ah)(i:Nat)(K:List ah)(L:List ag):Prop:=ar cs=K++ar (cs.drop i)∧aU p cs=L++aU p (cs.drop i)
theorem iG.start(p:List GStep)(cs:List ah):iG p cs 0 [] []:=⟨by simp,by simp⟩
theorem iG.gone{p:List GStep}{cs:List ah}{i:Nat}{K:List ah}{L:List ag}(h:iG p cs i K L)(hi:i<cs.length)(hg:cH cs[i] (cs.drop (i+1))=true)(ha:cs[i].at_=i):iG p cs (i+1) K (L++[⟨8,p++[⟨(i:Int),true⟩]⟩]):=by
 obtain⟨h1,h2⟩:=h;rw[List.drop_eq_getElem_cons hi,ar,if_pos hg] at h1;rw[List.drop_eq_getElem_cons hi,aU,if_pos hg,ha] at h2;exact⟨h1,by rw[h2];simp⟩
theorem iG.kept{p:List GStep}{cs:List ah}{i:Nat}{K:List ah}{L:List ag}(h:iG p cs i K L)(hi:i<cs.length)(hg:cH cs[i] (cs.drop (i+1))=false):iG p cs (i+1) (K++[cs[i]]) (L++cs[i].nl++cs[i].vl):=by
 obtain⟨h1,h2⟩:=h;rw[List.drop_eq_getElem_cons hi,ar,if_neg (by rw[hg];simp)] at h1;rw[List.drop_eq_getElem_cons hi,aU,if_neg (by rw[hg];simp)] at h2;exact⟨by rw[h1];simp,by rw[h2];simp⟩
theorem iG.done{p:List GStep}{cs:List ah}{i:Nat}{K:List ah}{L:List ag}(h:iG p cs i K L)(hi:cs.length≤i):ar cs=K∧aU p cs=L:=by
 obtain⟨h1,h2⟩:=h;rw[List.drop_eq_nil_of_le hi] at h1 h2;exact⟨by simpa[ar] using h1,by simpa[aU] using h2⟩
theorem oF(K:List ah)(c:ah):al K++[c.name,c.val]=al (K++[c]):=by
 unfold al;rw[List.flatMap_append];simp
theorem uj{cs:List ah}{x:aa}{i k:Nat}(hk:k<cs.length)(hik:i+1≤k):((cs.drop (i+1)).take (k+1-(i+1))).any (fun d=>decide (d.name=x))=(((cs.drop (i+1)).take (k-(i+1))).any (fun d=>decide (d.name=x))||decide (cs[k].name=x)):=by
 have hl:k-(i+1)<(cs.drop (i+1)).length:=by rw[List.length_drop];omega
 rw[show k+1-(i+1)=k-(i+1)+1 by omega,List.take_succ_eq_append_getElem hl,List.any_append];simp only[List.any_cons,List.any_nil,Bool.or_false];congr 3;rw[List.getElem_drop];congr 2;omega
theorem pU {way : Int} {l : List aa} {p : List GStep} : al (ao aY [] (ar (bH way l p))) = al (ar (bH way l p)) ↔ (ao aY [] (ar (bH way l p))).map ah.at_ = (ar (bH way l p)).map ah.at_ := by
  obtain ⟨K, hK⟩ : ∃ K, K = ar (bH way l p) := ⟨_, rfl⟩
  have hp : (ao aY [] K).Perm K := by simpa using bF aY K []
  have hn : (K.map ah.name).Nodup := by rw [hK]; exact (mw _).1
  have hat : (K.map ah.at_).Nodup := by
    rw [hK]
    have h0 : ((bH way l p).map ah.at_).Nodup := by unfold bH; rw [l9]; exact List.nodup_range'
    have hs : ∀ cs : List ah, (ar cs).Sublist cs := by
      intro cs
      induction cs with
      | nil => exact .slnil
      | cons c cs ih =>
        rw [ar]
        split
        · exact ih.cons c
        · exact ih.cons_cons c
    exact List.Nodup.sublist ((hs _).map _) h0
  rw [← hK]
  constructor
  · intro h
    have hnames : ∀ a b : List ah, al a = al b → a.map ah.name = b.map ah.name := by
      intro a
      induction a with
      | nil =>
        intro b h
        cases b with
        | nil => rfl
        | cons d b => rw [bf] at h; simp [al] at h
      | cons c a ih =>
        intro b h
        cases b with
        | nil => rw [bf] at h; simp [al] at h
        | cons d b =>
          rw [bf, bf] at h
          injection h with h1 h2
          injection h2 with h2 h3
          rw [List.map_cons, List.map_cons, h1, ih b h3]
    have h1 := hnames _ _ h
    have key : ∀ (a b : List ah), a.Perm b → (b.map ah.name).Nodup → a.map ah.name = b.map ah.name → a = b := by
      intro a
      induction a with
      | nil => intro b hp _ _; exact (List.nil_perm.1 hp).symm
      | cons c a ih =>
        intro b hp hn h
        cases b with
        | nil => exact absurd hp.length_eq (by simp)
        | cons d b =>
          rw [List.map_cons, List.map_cons] at h
          injection h with h1 h2
          rw [List.map_cons, List.nodup_cons] at hn
          have hc : c ∈ d :: b := hp.mem_iff.1 (by simp)
          have e : c = d := by
            rcases List.mem_cons.1 hc with e | e
            · exact e
            · exact absurd (h1 ▸ List.mem_map_of_mem (f := ah.name) e) hn.1
          subst e
          rw [ih b (List.Perm.cons_inv hp) hn.2 h2]
    rw [key _ _ hp hn h1]
  · intro h
    rw [wW hp hat h]
structure aH where
  at_ : Int
  name : aa
  ls : List ag
  gone : Bool
instance : Inhabited aH := ⟨⟨0, ⟨0, 0, 0, .empty, []⟩, [], false⟩⟩
instance : aE aH where
  wd := 8
  rp := fun w F x cs => ∃ F1 F2 c1 A c, F = F1 ++ F2 ∧ cs = .int .i64 x.at_ :: (c1 ++ [.slice A x.ls.length c, .bool x.gone]) ∧ a8 x.at_ ∧ aE.rp w F1 x.name c1 ∧ we w F2 x.ls A c
  len := by rintro _ _ _ _ ⟨_, _, c1, _, _, _, rfl, _, h, _⟩; have := aE.len h; simp [this]; rfl
  one := by
    rintro _ _ _ _ ⟨_, _, c1, _, _, _, rfl, _, h, _⟩ u hu
    simp only [List.mem_cons, List.mem_append, List.not_mem_nil, or_false] at hu
    rcases hu with rfl | hu | rfl | rfl
    · rfl
    · exact aE.one h u hu
    · rfl
    · rfl
  ak := by
    rintro _ _ _ _ _ ⟨F1, F2, c1, A, c, rfl, rfl, hI, h1, h2⟩ hk
    exact ⟨F1, F2, c1, A, c, rfl, rfl, hI, aE.ak h1 fun b hb => hk b (List.mem_append_left _ hb), h2.ak fun b hb => hk b (List.mem_append_right _ hb)⟩
theorem RS.conv{w:World}{S:Nat→Prop}{x:aH}{cs:List Value}(h:RS w S x cs): ∃A c A' c',cs=[.int .i64 x.at_,.int .i64 x.name.kind,.int .i64 x.name.n,.int .i64 x.name.x,.string x.name.s,.slice A x.name.l.length c,.slice A' x.ls.length c',.bool x.gone]∧a8 x.at_∧bC x.name∧SS w S x.name.l A c∧SS w S x.ls A' c':=by
 obtain⟨F,⟨F1,F2,c1,A',c',rfl,rfl,hI,h1,h2⟩,hF⟩:=h;obtain⟨A,c,rfl,h3,h4⟩:=dk.1 h1;exact⟨A,c,A',c',rfl,hI,h3,⟨F1,h4,fun b hb=>hF b (List.mem_append_left _ hb)⟩,⟨F2,h2,fun b hb=>hF b (List.mem_append_right _ hb)⟩⟩
theorem RS.wA{w:World}{S:Nat→Prop}{x:aH}{A A':Option Addr}{c c':Nat}(hI:a8 x.at_)(hV:bC x.name)(h1:SS w S x.name.l A c)(h2:SS w S x.ls A' c'):RS w S x [.int .i64 x.at_,.int .i64 x.name.kind,.int .i64 x.name.n,.int .i64 x.name.x,.string x.name.s,.slice A x.name.l.length c,.slice A' x.ls.length c',.bool x.gone]:=by
 obtain⟨F1,h3,h4⟩:=h1;obtain⟨F2,h5,h6⟩:=h2;refine⟨F1++F2,⟨F1,F2,_,A',c',rfl,rfl,hI,dk.2 ⟨A,c,rfl,hV,h3⟩,h5⟩,fun b hb=> ?_⟩;rcases List.mem_append.1 hb with hb|hb;·exact h4 b hb
 ·exact h6 b hb
def dZ(c:ah)(g:Bool):aH:=⟨c.at_,c.name,c.nl,g⟩
def lz:List ah→List aH|[]=>[]|c::l=>dZ c (cH c l)::lz l
theorem jG: ∀cs,(lz cs).length=cs.length|[]=>rfl|c::l=>by rw[lz,List.length_cons,List.length_cons,jG l]
theorem sF: ∀(cs:List ah)(i:Nat)(h:i<cs.length),(lz cs)[i]'(by rw[jG];exact h)=dZ cs[i] (cH cs[i] (cs.drop (i+1)))|c::l,0,h=>by simp[lz]|c::l,i+1,h=>by simp only[lz,List.getElem_cons_succ];rw[sF l i (by simpa using h)];simp
theorem ki : ∀ cs, (lz cs).filter (fun c => !c.gone) = (ar cs).map (dZ · false)
  | [] => rfl
  | c :: l => by
    rw [lz, ar]
    cases h : cH c l
    · rw [List.filter_cons_of_pos (by simp [dZ]), if_neg (by simp), List.map_cons, ki l]
    · rw [List.filter_cons_of_neg (by simp [dZ]), if_pos rfl, ki l]
theorem vR{l:List Nat}(h:l.Nodup){m:List Nat}(hp:l.Perm m)(hm:m.Pairwise (·< ·)):l.Pairwise (·≤ ·)↔l=m:=by
 constructor;·intro hl;refine List.Perm.eq_of_pairwise (le:=(·≤ ·)) (fun a b _ _ h1 h2=>Nat.le_antisymm h1 h2) hl (hm.imp fun h=>Nat.le_of_lt h) hp
 ·rintro rfl;exact hm.imp fun h=>Nat.le_of_lt h
theorem ff: ∀cs:List ah,(ar cs).Sublist cs|[]=>.slnil|c::cs=>by rw[ar];split;(·exact(ff cs).cons c);·exact(ff cs).cons_cons c
theorem pE(way:Int)(l:List aa)(p:List GStep):((ar (bH way l p)).map ah.at_).Pairwise (·< ·):=by
 have h0:((bH way l p).map ah.at_).Pairwise (·< ·):=by unfold bH;rw[l9];exact List.pairwise_lt_range'
 exact List.Pairwise.sublist ((ff _).map _) h0
theorem uc(way:Int)(l:List aa)(p:List GStep):((aS way (ar (bH way l p))).map ah.at_).Pairwise (·≤ ·)↔(aS way (ar (bH way l p))).map ah.at_=(ar (bH way l p)).map ah.at_:=by
 have hr:=pE way l p;have hp:=(dA way (ar (bH way l p))).map ah.at_;exact vR (hp.nodup_iff.2 (hr.imp fun h=>Nat.ne_of_lt h)) hp hr
theorem rk(p:List GStep): ∀(cs:List ah)(i:Nat)(h:i<cs.length),cd p (cs.drop i)=(if cH cs[i] (cs.drop (i+1)) then[⟨8,p++[⟨cs[i].at_,true⟩]⟩] else cs[i].nl)++cd p (cs.drop (i+1)):=by
 intro cs i h;rw[List.drop_eq_getElem_cons h,cd]
theorem ef{v:aa}(h:valOkP v=true)(hs:v.s.size≤maxLen):bC v:=by
 have ho:=(aL h).1;have hd:aZ v.n v.x=true→a8 v.n∧a8 v.x:=fun h=>by unfold aZ at h;split at h;(·rename_i e;rw[decide_eq_true_iff] at h;exact⟨⟨by omega,by omega⟩,by rw[e];exact a8.zero⟩);·rw[Bool.and_eq_true,Bool.and_eq_true,decide_eq_true_iff,decide_eq_true_iff,jD] at h;exact⟨⟨by omega,by omega⟩,⟨by omega,by omega⟩⟩
 have hf:bg v.n v.x=true→a8 v.n∧a8 v.x:=fun h=>by rcases mM h with⟨e1,e2⟩|h;(·rw[e1,e2];exact⟨a8.zero,a8.zero⟩);·exact⟨⟨by omega,by omega⟩,⟨by omega,by omega⟩⟩
 have z:a8 0:=a8.zero;have key:a8 v.kind∧a8 v.n∧a8 v.x:=by(have hk:v.kind=1∨v.kind=2∨v.kind=3∨v.kind=4∨v.kind=5∨v.kind=6∨v.kind=7∨v.kind=8∨v.kind=9∨v.kind=10∨v.kind=11∨ ¬(1≤v.kind∧v.kind≤11):=by omega);unfold af at ho;rcases hk with hk|hk|hk|hk|hk|hk|hk|hk|hk|hk|hk|hk;(all_goals first|(rw[if_neg (by omega),if_neg (by omega),if_neg (by omega),if_neg (by omega),if_neg (by omega),if_neg (by omega),if_neg (by omega),if_neg (by omega),if_neg (by omega),if_neg (by omega),if_neg (by omega)] at ho;cases ho;done)|(simp only[hk] at ho;simp at ho;rw[hk]));(·rw[ho.1,ho.2.1];exact⟨⟨by omega,by omega⟩,z,z⟩);(·rw[ho.2.1];exact⟨⟨by omega,by omega⟩,⟨by omega,by omega⟩,z⟩);(·rw[ho.2.1];exact⟨⟨by omega,by omega⟩,⟨by omega,by omega⟩,z⟩);(·exact⟨⟨by omega,by omega⟩,hf ho.1⟩);(·rw[ho.2.1];exact⟨⟨by omega,by omega⟩,⟨by omega,by omega⟩,z⟩);(·exact⟨⟨by omega,by omega⟩,hd ho.1⟩);(·rw[ho.1.1,ho.1.2];exact⟨⟨by omega,by omega⟩,z,z⟩);(·rw[ho.1,ho.2.1];exact⟨⟨by omega,by omega⟩,z,z⟩);(·rw[ho.1,ho.2.1];exact⟨⟨by omega,by omega⟩,z,z⟩);(·rw[ho.1,ho.2.1];exact⟨⟨by omega,by omega⟩,z,z⟩);·rw[ho.2.1];exact⟨⟨by omega,by omega⟩,⟨by omega,by omega⟩,z⟩
 exact⟨key.1,key.2.1,key.2.2,hs⟩
def ft(v:aa):Prop:=bC v∧gi v∧depG v≤4∧potG v≤10000∧bulkVal v≤40000
def under(p:List GStep)(x:ag):ag:=⟨x.kind,p++x.p⟩
def cJ(p:List GStep)(c:ah):ah:=⟨c.at_,c.name,c.nl.map (under p),c.val,c.vl.map (under p)⟩
def dz(p:List GStep)(r:aa×List ag):aa×List ag:=(r.1,r.2.map (under p))
theorem gY(p:List GStep): ∀(r:List (aa×List ag))(i:Nat),aO (r.map (dz p)) i=(aO r i).map (cJ p)|a::b::l,i=>by rw[List.map_cons,List.map_cons,aO,aO,List.map_cons,gY p l (i+1)];rfl|[a],i=>by simp[aO]|[],i=>by simp[aO]
theorem mE(p:List GStep)(c:ah)(l:List ah):cH (cJ p c) (l.map (cJ p))=cH c l:=by
 unfold cH;rw[List.any_map];rfl
theorem jk(p:List GStep): ∀l:List ah,ar (l.map (cJ p))=(ar l).map (cJ p)|[]=>rfl|c::l=>by rw[List.map_cons,ar,ar,mE,jk p l];split<;>simp
theorem kW(p:List GStep)(x:ah): ∀l:List ah,cI aY (cJ p x) (l.map (cJ p))=(cI aY x l).map (cJ p)|[]=>rfl|y::l=>by rw[List.map_cons,cI,cI,kW p x l];have e:aY (cJ p x) (cJ p y)=aY x y:=rfl;rw[e];split<;>simp
theorem la(p:List GStep): ∀(l q:List ah),ao aY (q.map (cJ p)) (l.map (cJ p))=(ao aY q l).map (cJ p)|[],q=>rfl|x::l,q=>by rw[List.map_cons,ao,ao,←la p l];congr 1;unfold ca;rw[←List.map_reverse,kW,List.map_reverse]
theorem mA(p:List GStep)(way:Int)(l:List ah):aS way (l.map (cJ p))=(aS way l).map (cJ p):=by
 unfold aS;split;·exact la p l []
 ·rfl
theorem iS(p q:List GStep): ∀l:List ah,aU (p++q) (l.map (cJ p))=(aU q l).map (under p)|[]=>rfl|c::l=>by rw[List.map_cons,aU,aU,mE,iS p q l,List.map_append];congr 1;split;(·simp[under,cJ]);·simp[cJ]
theorem tK(way:Int)(p q:List GStep)(cs:List ah):eB way (cs.map (cJ p)) (p++q)=dz p (eB way cs q):=by
 unfold eB dz;rw[jk,mA,iS];have e1: ∀l:List ah,(l.map (cJ p)).flatMap (fun c=>[c.name,c.val])=l.flatMap (fun c=>[c.name,c.val]):=fun l=>by rw[List.flatMap_map];rfl
 have e2: ∀l:List ah,(l.map (cJ p)).map ah.at_=l.map ah.at_:=fun l=>by rw[List.map_map];rfl
 rw[e1,e2,e2];simp only[List.map_append];congr 2;split;·rfl
 ·simp[under]
theorem iU(way:Int)(p:List GStep)(v:aa): ∀q,projP way v (p++q)=dz p (projP way v q):=by
 refine aa.ind (p:=fun v=> ∀q,projP way v (p++q)=dz p (projP way v q)) (fun v IH q=> ?_) v;have hE: ∀(k:Int)(i:Nat)(a:aa),(∀q,projP way a (p++q)=dz p (projP way a q))→cU way k a i (p++q)=dz p (cU way k a i q):=by intro k i a h;unfold cU;split;(·unfold dz;simp only;split;(·rfl);·simp[under]);·rw[←h,List.append_assoc]
 have hL: ∀(k:Int)(l:List aa)(i:Nat),(∀a∈l,∀q,projP way a (p++q)=dz p (projP way a q))→projL way k l i (p++q)=(projL way k l i q).map (dz p):=by intro k l;induction l with|nil=>intro i _;simp[projL]|cons a l ih=>intro i h;rw[cE,cE,List.map_cons,hE k i a (h a (by simp)),ih (i+1) (fun b hb=>h b (by simp[hb]))]
 have hA: ∀a∈v.l,∀q,projP way a (p++q)=dz p (projP way a q):=fun a ha=>by obtain⟨i,hi,e⟩:=List.getElem_of_mem ha;rw[←e];exact IH i hi
 have e1: ∀r:List (aa×List ag),(r.map (dz p)).map (·.1)=r.map (·.1):=fun r=>by rw[List.map_map];rfl
 have e2: ∀r:List (aa×List ag),(r.map (dz p)).flatMap (·.2)=(r.flatMap (·.2)).map (under p):=fun r=>by rw[List.flatMap_map,List.map_flatMap];rfl
 obtain⟨k,n,x,s,l⟩:=v;rw[projP,projP];split;·rw[hL 10 l 0 hA,gY,tK]
 ·split;·rw[hL 9 l 0 hA,e1,e2];rfl
  ·split
   ·rw[hL 11 l 0 hA];split;·rw[e1,e2];rfl
    ·rw[e2];unfold dz;simp only[List.head?_map,Option.map_map,List.map_append];congr 1
   ·unfold dz;simp only;congr 1;split;·rfl
    ·simp[under]
theorem vC(way:Int)(l:List aa)(p:List GStep):bH way l p=(bH way l []).map (cJ p):=by
 unfold bH;rw[←gY];congr 1;have: ∀(l:List aa)(i:Nat),projL way 10 l i p=(projL way 10 l i []).map (dz p):=by intro l;induction l with|nil=>intro i;simp[projL]|cons a l ih=>intro i;rw[cE,cE,List.map_cons,ih (i+1)];congr 1;unfold cU;split;(·unfold dz;simp only;split;(·rfl);·simp[under]);·have h:=iU way p a ([]++[gN 10 i]);rw[←h];simp
 exact this l 0
def aC(way:Int)(v:aa):List GStep→Option (List GStep)|[]=>some []|s::p=>(stepG v s).bind fun x=>if v.kind=10 then((aS way (ar (bH way v.l []))).findIdx? fun c=>decide ((c.at_:Int)=s.at_)).bind fun i=>if s.name=true∧aV way=true∧p≠[] then none else(aC way x p).map (⟨(i:Int),s.name⟩:: ·) else if v.kind=11 then(aC way x p).map fun r=>if way=2 then s::r else r else(aC way x p).map (s:: ·)
def oe(l:List ag)(p:List GStep):Bool:=l.any fun x=>p.isPrefixOf x.p
end Go.Proofs.YtodpdjehjllhdaaGreatDoor
