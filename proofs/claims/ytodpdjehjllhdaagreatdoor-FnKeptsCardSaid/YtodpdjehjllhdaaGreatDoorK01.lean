/- Part of a proof: contracts and plain laws. -/
import Derived.Test.YtodpdjehjllhdaaGreatDoorK00
import Derived.Lib.ItoaNum
import Derived.Lib.ValidLaws
set_option linter.unusedVariables false
set_option linter.unusedSimpArgs false
set_option maxRecDepth 100000
set_option maxHeartbeats 20000000
namespace Go.Proofs.YtodpdjehjllhdaaGreatDoor
open Go.RowKit
structure aa where
  kind : Int
  n : Int
  x : Int
  s : ByteArray
  l : List aa
mutual
def aa.same : aa → aa → Bool
  | ⟨k, n, x, s, l⟩, ⟨k', n', x', s', l'⟩ => decide (k = k') && decide (n = n') && decide (x = x') && decide (s = s') && aa.sameL l l'
def aa.sameL : List aa → List aa → Bool
  | [], [] => true
  | a :: l, b :: l' => aa.same a b && aa.sameL l l'
  | _, _ => false
end
mutual
theorem aa.same_eq : ∀ (a b : aa), aa.same a b = true ↔ a = b
  | ⟨k, n, x, s, l⟩, ⟨k', n', x', s', l'⟩ => by
    simp only [aa.same, Bool.and_eq_true, decide_eq_true_eq, aa.sameL_eq l l', aa.mk.injEq, and_assoc]
theorem aa.sameL_eq : ∀ (a b : List aa), aa.sameL a b = true ↔ a = b
  | [], [] => by simp [aa.sameL]
  | [], _ :: _ => by simp [aa.sameL]
  | _ :: _, [] => by simp [aa.sameL]
  | a :: l, b :: l' => by simp only [aa.sameL, Bool.and_eq_true, aa.same_eq a b, aa.sameL_eq l l', List.cons.injEq]
end
instance : DecidableEq aa := fun a b => if h : aa.same a b = true then .isTrue ((aa.same_eq a b).1 h) else .isFalse fun e => h ((aa.same_eq a b).2 e)
def bC(v:aa):Prop:=a8 v.kind∧a8 v.n∧a8 v.x∧v.s.size≤maxLen
mutual
def gK (w : World) : aa → List Nat → List Value → Prop
  | ⟨k, n, x, s, l⟩, F, cs => ∃ A c, cs = [.int .i64 k, .int .i64 n, .int .i64 x, .string s, .slice A l.length c] ∧ (a8 k ∧ a8 n ∧ a8 x ∧ s.size ≤ maxLen) ∧ l.length ≤ c ∧ c ≤ maxLen ∧
      ((l = [] ∧ F = [] ∧ (A = none → c = 0)) ∨ ∃ b off F' xs, A = some ⟨b, off, none⟩ ∧ F = b :: F' ∧ rpVals w l F' xs ∧ bc w b off xs)
def rpVals (w : World) : List aa → List Nat → List Value → Prop
  | [], F, xs => F = [] ∧ xs = []
  | a :: l, F, xs => ∃ F1 F2 cs ys, F = F1 ++ F2 ∧ xs = cs ++ ys ∧ gK w a F1 cs ∧ rpVals w l F2 ys
end
mutual
theorem gK.ak {w w' : World} : ∀ (v : aa) {F : List Nat} {cs : List Value}, gK w v F cs → (∀ b, b ∈ F → w'.heap[b]? = w.heap[b]?) → gK w' v F cs
  | ⟨k, n, x, s, l⟩, F, cs, h, hk => by
    simp only [gK] at h ⊢
    obtain ⟨A, c, h1, h2, h3, h4, h5⟩ := h
    refine ⟨A, c, h1, h2, h3, h4, ?_⟩
    rcases h5 with h5 | ⟨b, off, F', xs, hA, hF, he, hc⟩
    · exact .inl h5
    · subst hF
      exact .inr ⟨b, off, F', xs, hA, rfl, rpVals.ak l he fun b hb => hk b (List.mem_cons_of_mem _ hb), hc.ak (hk _ (List.mem_cons_self ..))⟩
theorem rpVals.ak {w w' : World} : ∀ (l : List aa) {F : List Nat} {xs : List Value}, rpVals w l F xs → (∀ b, b ∈ F → w'.heap[b]? = w.heap[b]?) → rpVals w' l F xs
  | [], _, _, h, _ => by simp only [rpVals] at h ⊢; exact h
  | a :: l, F, xs, h, hk => by
    simp only [rpVals] at h ⊢
    obtain ⟨F1, F2, cs, ys, hF, hx, hr, he⟩ := h
    subst hF
    exact ⟨F1, F2, cs, ys, rfl, hx, gK.ak a hr fun b hb => hk b (List.mem_append_left _ hb), rpVals.ak l he fun b hb => hk b (List.mem_append_right _ hb)⟩
end
theorem gK.shape{w:World}{v:aa}{F:List Nat}{cs:List Value}(h:gK w v F cs): ∃A c,cs=[.int .i64 v.kind,.int .i64 v.n,.int .i64 v.x,.string v.s,.slice A v.l.length c]:=by
 cases v;simp only[gK] at h;obtain⟨A,c,h1,_⟩:=h;exact⟨A,c,h1⟩
instance : aE aa where
  wd := 5
  rp := fun w F v cs => gK w v F cs
  len := fun h => by obtain ⟨A, c, rfl⟩ := h.shape; rfl
  one := fun h u hu => by obtain ⟨A, c, rfl⟩ := h.shape; simp at hu; rcases hu with rfl | rfl | rfl | rfl | rfl <;> rfl
  ak := fun h hk => gK.ak _ h hk
theorem ig{w:World}: ∀(l:List aa)(F:List Nat)(xs:List Value),rpVals w l F xs↔aN w l F xs|[],F,xs=>by simp only[rpVals,aN]|a::l,F,xs=>by simp only[rpVals,aN];constructor;(·rintro⟨F1,F2,cs,ys,h1,h2,h3,h4⟩;exact⟨F1,F2,cs,ys,h1,h2,h3,(ig l F2 ys).1 h4⟩);·rintro⟨F1,F2,cs,ys,h1,h2,h3,h4⟩;exact⟨F1,F2,cs,ys,h1,h2,h3,(ig l F2 ys).2 h4⟩
theorem dk{w:World}{v:aa}{F:List Nat}{cs:List Value}:aE.rp w F v cs↔ ∃A c,cs=[.int .i64 v.kind,.int .i64 v.n,.int .i64 v.x,.string v.s,.slice A v.l.length c]∧bC v∧we w F v.l A c:=by
 show gK w v F cs↔_;obtain⟨k,n,x,s,l⟩:=v;simp only[gK,ig];constructor;·rintro⟨A,c,h1,h2,h3,h4,h5⟩;exact⟨A,c,h1,h2,h3,h4,h5⟩
 ·rintro⟨A,c,h1,h2,h3,h4,h5⟩;exact⟨A,c,h1,h2,h3,h4,h5⟩
theorem RA.zi{w:World}{v:aa}{cs:List Value}(h:RA w v cs): ∃A c,cs=[.int .i64 v.kind,.int .i64 v.n,.int .i64 v.x,.string v.s,.slice A v.l.length c]∧SA w v.l A c∧bC v:=by
 obtain⟨F,hr,hF⟩:=h;obtain⟨A,c,h1,h2,h3⟩:=dk.1 hr;exact⟨A,c,h1,⟨F,h3,hF⟩,h2⟩
theorem RF.val{base:Nat}{w:World}{v:aa}{A:Option Addr}{c:Nat}(hI:bC v)(h:SF base w v.l A c):RF base w v [.int .i64 v.kind,.int .i64 v.n,.int .i64 v.x,.string v.s,.slice A v.l.length c]:=by
 obtain⟨F,h1,h2⟩:=h;exact⟨F,dk.2 ⟨A,c,rfl,hI,h1⟩,h2⟩
theorem SA.bV{w:World}{l:List aa}{A:Option Addr}{c:Nat}(h:SA w l A c){i:Nat}(hi:i<l.length): ∃b off A' c',A=some ⟨b,off,none⟩∧b<w.heap.size∧bC l[i]∧SA w l[i].l A' c'∧w.cell? ⟨b,off+i*5,none⟩=some (.int .i64 l[i].kind)∧w.cell? ⟨b,off+i*5+1,none⟩=some (.int .i64 l[i].n)∧w.cell? ⟨b,off+i*5+1+1,none⟩=some (.int .i64 l[i].x)∧w.cell? ⟨b,off+i*5+1+1+1,none⟩=some (.string l[i].s)∧w.cell? ⟨b,off+i*5+1+1+1+1,none⟩=some (.slice A' l[i].l.length c'):=by
 obtain⟨b,off,cs,rfl,hb,hr,hc⟩:=h.at hi;obtain⟨A',c',rfl,hs,hI⟩:=hr.zi;exact⟨b,off,A',c',rfl,hb,hI,hs,hc.c0,hc.c1,hc.c2,hc.c3,hc.c4⟩
mutual
def bulkVal : aa → Nat
  | ⟨_, _, _, s, l⟩ => s.size + bulkVals l
def bulkVals : List aa → Nat
  | [] => 0
  | a :: l => 1 + bulkVal a + bulkVals l
end
theorem au(v:aa):bulkVal v=v.s.size+bulkVals v.l:=by
 cases v;rw[bulkVal]
theorem aB(l:List aa):bulkVals l=l.length+(l.map bulkVal).sum:=by
 induction l with|nil=>simp[bulkVals]|cons a l ih=>simp only[bulkVals,List.length_cons,List.map_cons,List.sum_cons,ih];omega
theorem aa.ind{p:aa→Prop}(h: ∀v:aa,(∀i(hi:i<v.l.length),p v.l[i])→p v)(v:aa):p v:=by
 have key: ∀n(v:aa),bulkVal v≤n→p v:=by intro n;induction n with|zero=>intro v hv;refine h v fun i hi=> ?_;rw[au,aB] at hv;omega|succ n ih=>intro v hv;refine h v fun i hi=>ih _ ?_;have:=dJ bulkVal v.l hi;rw[au,aB] at hv;omega
 exact key _ v (Nat.le_refl _)
section
def im{α:Type}[DecidableEq α](lt:α→α→Bool):List α→List α→Bool|[],[]=>false|[],_::_=>true|_::_,[]=>false|a::p,b::q=>if a=b then im lt p q else lt a b
section
variable {α : Type} {lt : α → α → Bool}
structure wk (lt : α → α → Bool) : Prop where
  irr : ∀ a, lt a a = false
  trans : ∀ a b c, lt a b = true → lt b c = true → lt a c = true
  tot : ∀ a b, a ≠ b → lt a b = true ∨ lt b a = true
theorem wk.td(O:wk lt)(a b:α)(h:lt a b=true):lt b a=false:=by
 rw[Bool.eq_false_iff];intro h2;have:=O.trans a b a h h2;rw[O.irr] at this;cases this
variable [DecidableEq α]
theorem wk.uniq(O:wk lt)(a b:α)(h:lt a b=false)(h2:lt b a=false):a=b:=by
 by_cases e:a=b;·exact e
 ·rcases O.tot a b e with h3|h3;·rw[h] at h3;cases h3
  ·rw[h2] at h3;cases h3
theorem wk.sA(O:wk lt):lP lt:=⟨O.irr,O.td,fun a b c h1 h2=>by by_cases e:a=b;(·rw[e];exact h2);·by_cases e2:b=c;(·rw[←e2];exact h1);·rcases O.tot a b e with h3|h3;(·rcases O.tot b c e2 with h4|h4;(·exact O.td _ _ (O.trans a b c h3 h4));·rw[h2] at h4;cases h4);·rw[h1] at h3;cases h3⟩
theorem xk (O : wk lt) : wk (im lt) := by
  refine ⟨fun a => ?_, fun a => ?_, fun a => ?_⟩
  · induction a with
    | nil => rfl
    | cons a p ih => rw [im, if_pos rfl]; exact ih
  · induction a with
    | nil =>
      intro b c h1 h2
      cases b with
      | nil => cases c with
        | nil => exact h1
        | cons c r => rfl
      | cons b q => cases c with
        | nil => cases h2
        | cons c r => rfl
    | cons a p ih =>
      intro b c h1 h2
      cases b with
      | nil => cases h1
      | cons b q => cases c with
        | nil => cases h2
        | cons c r =>
          rw [im] at h1 h2 ⊢
          by_cases e1 : a = b
          · rw [if_pos e1] at h1
            by_cases e2 : b = c
            · rw [if_pos e2] at h2; rw [if_pos (e1.trans e2)]; exact ih q r h1 h2
            · rw [if_neg e2] at h2; rw [if_neg (by rw [e1]; exact e2), e1]; exact h2
          · rw [if_neg e1] at h1
            by_cases e2 : b = c
            · rw [if_neg (by rw [← e2]; exact e1), ← e2]; exact h1
            · rw [if_neg e2] at h2
              have h3 := O.trans a b c h1 h2
              rw [if_neg (fun e => by rw [e, O.irr] at h3; cases h3)]; exact h3
  · induction a with
    | nil => intro b h; cases b with
      | nil => exact absurd rfl h
      | cons b q => exact .inl rfl
    | cons a p ih =>
      intro b h
      cases b with
      | nil => exact .inr rfl
      | cons b q =>
        rw [im, im]
        by_cases e1 : a = b
        · rw [if_pos e1, if_pos e1.symm]; exact ih q (fun e => h (by rw [e1, e]))
        · rw [if_neg e1, if_neg (fun e => e1 e.symm)]; exact O.tot a b e1
end
def wX(a b:UInt8):Bool:=decide (a.toNat<b.toNat)
def eC(a b:List UInt8):Bool:=im wX a b
def kn(a b:GStep):Bool:=decide (a.at_<b.at_)||(decide (a.at_=b.at_)&&(a.name&& !b.name))
theorem tG:wk kn:=by
 refine⟨fun a=>by simp[kn],fun a b c h1 h2=> ?_,fun a b h=> ?_⟩
 ·simp only[kn,Bool.or_eq_true,Bool.and_eq_true,decide_eq_true_eq,Bool.not_eq_true'] at*;rcases h1 with h1|⟨h1,h3,h4⟩
  ·rcases h2 with h2|⟨h2,h5,h6⟩;·exact .inl (by omega)
   ·exact .inl (by omega)
  ·rcases h2 with h2|⟨h2,h5,h6⟩;·exact .inl (by omega)
   ·rw[h4] at h5;cases h5
 ·simp only[kn,Bool.or_eq_true,Bool.and_eq_true,decide_eq_true_eq,Bool.not_eq_true'];obtain⟨i,n⟩:=a;obtain⟨j,m⟩:=b;simp only at*;by_cases e:i=j;·subst e;cases n<;>cases m<;>simp_all
  ·omega
theorem me{a b:GStep}(h:a≠b):kn a b=(decide (a.at_<b.at_)||(decide (a.at_=b.at_)&&a.name)):=by
 obtain⟨i,n⟩:=a;obtain⟨j,m⟩:=b;unfold kn;simp only;by_cases e:i=j;·subst e;cases n<;>cases m<;>simp_all
 ·simp[e]
def cW(a b:List GStep):Bool:=im kn a b
theorem eP:wk cW:=xk tG
def an(a b:ag):Bool:=if a.p=b.p then decide (a.kind<b.kind) else cW a.p b.p
theorem cY:wk an:=by
 refine⟨fun a=>by simp[an],fun a b c h1 h2=> ?_,fun a b h=> ?_⟩
 ·unfold an at*;by_cases e1:a.p=b.p
  ·rw[if_pos e1] at h1;by_cases e2:b.p=c.p;·rw[if_pos e2] at h2;rw[if_pos (e1.trans e2)];simp only[decide_eq_true_eq] at*;omega
   ·rw[if_neg e2] at h2;rw[if_neg (by rw[e1];exact e2),e1];exact h2
  ·rw[if_neg e1] at h1;by_cases e2:b.p=c.p;·rw[if_neg (by rw[←e2];exact e1),←e2];exact h1
   ·rw[if_neg e2] at h2;have h3:=eP.trans _ _ _ h1 h2;rw[if_neg (fun e=>by rw[e,eP.irr] at h3;cases h3)];exact h3
 ·unfold an;obtain⟨k,p⟩:=a;obtain⟨k',q⟩:=b;simp only;by_cases e:p=q;·subst e;rw[if_pos rfl,if_pos rfl];simp only[decide_eq_true_eq];have:k≠k':=fun e=>h (by rw[e]);omega
  ·rw[if_neg e,if_neg (fun e2=>e e2.symm)];exact eP.tot _ _ e
def bo(l:List ag):List ag:=ao an [] l
theorem jQ{l m:List ag}(hp:m.Perm l)(hs:cn an m):m=bo l:=by
 have h1:=bF an l [];rw[List.nil_append] at h1;exact sW cY.sA cY.uniq (hp.trans h1.symm) hs (ia cY.sA l [] cn.nil)
theorem nv{l m:List ag}(hp:m.Perm l):bo m=bo l:=by
 refine jQ ?_ (ia cY.sA m [] cn.nil);have h1:=bF an m [];rw[List.nil_append] at h1;exact h1.trans hp
theorem jl(l:List ag):(bo l).length=l.length:=by
 have h1:=bF an l [];rw[List.nil_append] at h1;exact h1.length_eq
end
def eI(v:aa)(s:GStep):Int:=if v.kind=10 then(if s.name then 2*s.at_ else 2*s.at_+1) else s.at_
def bT(v:aa)(s:GStep):Int:=if 0≤s.at_∧(v.kind=10∨s.name=false)∧eI v s<v.l.length then eI v s else-1
theorem qi{v:aa}{s:GStep}(h:0≤s.at_):s.at_≤eI v s:=by
 unfold eI;split;·split<;>omega
 ·omega
theorem fF(v:aa)(s:GStep):bT v s= -1∨ ∃i:Nat,bT v s=i∧i<v.l.length:=by
 by_cases h:0≤s.at_∧(v.kind=10∨s.name=false)∧eI v s<v.l.length;·obtain⟨h1,h2,h3⟩:=h;have:=qi (v:=v) h1;refine .inr ⟨(eI v s).toNat,?_,by omega⟩;unfold bT;rw[if_pos ⟨h1,h2,h3⟩];omega
 ·left;unfold bT;rw[if_neg h]
def stepG(v:aa)(s:GStep):Option aa:=v.l[(bT v s).toNat]?.bind fun x=>if bT v s= -1 then none else some x
theorem kd{v:aa}{s:GStep}(h:bT v s= -1):stepG v s=none:=by
 unfold stepG;rw[h];cases v.l[(-1:Int).toNat]? <;>simp
theorem ij{v:aa}{s:GStep}{i:Nat}(h:bT v s=i)(hi:i<v.l.length):stepG v s=some v.l[i]:=by
 unfold stepG;rw[h];have: ¬((i:Int)= -1):=by omega
 simp[hi,this]
def yc(v:aa):List GStep→Option aa|[]=>some v|s::p=>(stepG v s).bind fun x=>yc x p
def aT(v:aa)(i:Nat):GStep:=if v.kind=10 then⟨((i/2:Nat):Int),decide (i%2=0)⟩ else⟨i,false⟩
mutual
def pathsG (p : List GStep) : aa → List (List GStep)
  | ⟨k, n, x, s, l⟩ => p :: pathsL p ⟨k, n, x, s, []⟩ 0 l
def pathsL (p : List GStep) (v : aa) (i : Nat) : List aa → List (List GStep)
  | [] => []
  | a :: l => pathsG (p ++ [aT v i]) a ++ pathsL p v (i + 1) l
end
theorem qB{v v':aa}(h:v.kind=v'.kind)(i:Nat):aT v i=aT v' i:=by
 unfold aT;rw[h]
theorem mu{v v':aa}(h:v.kind=v'.kind)(p:List GStep): ∀(l:List aa)(i:Nat),pathsL p v i l=pathsL p v' i l|[],i=>by simp[pathsL]|a::l,i=>by simp only[pathsL];rw[qB h,mu h p l (i+1)]
theorem qa(p:List GStep)(v:aa):pathsG p v=p::pathsL p v 0 v.l:=by
 obtain⟨k,n,x,s,l⟩:=v;rw[pathsG];congr 1;exact mu (v:=⟨k,n,x,s,[]⟩) (v':=⟨k,n,x,s,l⟩) rfl p l 0
theorem mJ(p:List GStep)(v:aa): ∀(l:List aa)(i:Nat)(a:aa),pathsL p v i (l++[a])=pathsL p v i l++pathsG (p++[aT v (i+l.length)]) a|[],i,a=>by simp[pathsL]|b::l,i,a=>by simp only[List.cons_append,pathsL,mJ p v l (i+1) a,List.append_assoc,List.length_cons];rw[show i+1+l.length=i+(l.length+1) by omega]
def cG(p:List GStep)(v:aa)(k:Nat):List (List GStep):=p::pathsL p v 0 (v.l.take k)
theorem iq(p:List GStep)(v:aa):cG p v 0=[p]:=by
 simp[cG,pathsL]
theorem fE(p:List GStep)(v:aa){k:Nat}(h:k<v.l.length):cG p v (k+1)=cG p v k++pathsG (p++[aT v k]) v.l[k]:=by
 unfold cG;rw[List.take_succ_eq_append_getElem h,mJ,List.length_take,Nat.min_eq_left (by omega),Nat.zero_add,List.cons_append]
theorem iQ(p:List GStep)(v:aa):cG p v v.l.length=pathsG p v:=by
 rw[cG,List.take_length,qa]
mutual
theorem pathsG_len : ∀ (v : aa) (p : List GStep), (pathsG p v).length ≤ 1 + bulkVal v
  | ⟨k, n, x, s, l⟩, p => by
    rw [pathsG, bulkVal, List.length_cons]
    have := pathsL_len l ⟨k, n, x, s, []⟩ p 0
    omega
theorem pathsL_len : ∀ (l : List aa) (v : aa) (p : List GStep) (i : Nat), (pathsL p v i l).length ≤ bulkVals l
  | [], v, p, i => by simp [pathsL]
  | a :: l, v, p, i => by
    rw [pathsL, bulkVals, List.length_append]
    have := pathsG_len a (p ++ [aT v i])
    have := pathsL_len l v p (i + 1)
    omega
end
theorem gz(p:List GStep)(v:aa)(k:Nat):(cG p v k).length≤1+bulkVal v:=by
 unfold cG;rw[List.length_cons];have h1:=pathsL_len (v.l.take k) v p 0;have h2:bulkVals (v.l.take k)≤bulkVals v.l:=by(have: ∀(l l':List aa),bulkVals (l++l')=bulkVals l+bulkVals l':=fun l l'=>by rw[aB,aB,aB];simp;omega);have:=this (v.l.take k) (v.l.drop k);rw[List.take_append_drop] at this;omega
 rw[au];omega
theorem dX(l l':List aa):bulkVals (l++l')=bulkVals l+bulkVals l':=by
 rw[aB,aB,aB];simp;omega
theorem oo(p:List GStep)(v:aa){k:Nat}(h:k<v.l.length):(cG p v k).length+bulkVal v.l[k]≤bulkVal v:=by
 unfold cG;rw[List.length_cons];have h1:=pathsL_len (v.l.take k) v p 0;have h2:=dX (v.l.take (k+1)) (v.l.drop (k+1));rw[List.take_append_drop,List.take_succ_eq_append_getElem h,dX] at h2;have h3:bulkVals [v.l[k]]=1+bulkVal v.l[k]:=by rw[aB];simp
 have h4:=au v;omega
theorem jE{v:aa}{i:Nat}(hi:i<v.l.length):bulkVal v.l[i]+1≤bulkVal v:=by
 have:=dJ bulkVal v.l hi;have:=au v;have:=aB v.l;omega
theorem gd(v:aa):v.l.length≤bulkVal v:=by
 rw[au,aB];omega
mutual
theorem pathsG_deep : ∀ (v : aa) (p q : List GStep), q ∈ pathsG p v → q.length ≤ p.length + bulkVal v
  | ⟨k, n, x, s, l⟩, p, q, h => by
    rw [pathsG] at h
    rw [bulkVal]
    rcases List.mem_cons.1 h with rfl | h
    · omega
    · have := pathsL_deep l ⟨k, n, x, s, []⟩ p 0 q h; omega
theorem pathsL_deep : ∀ (l : List aa) (v : aa) (p : List GStep) (i : Nat) (q : List GStep), q ∈ pathsL p v i l → q.length ≤ p.length + bulkVals l
  | [], v, p, i, q, h => by simp [pathsL] at h
  | a :: l, v, p, i, q, h => by
    rw [pathsL] at h
    rw [bulkVals]
    rcases List.mem_append.1 h with h | h
    · have := pathsG_deep a _ q h; simp at this; omega
    · have := pathsL_deep l v p (i + 1) q h; omega
end
theorem pr(v:aa){i:Nat}(hi:i<v.l.length):bT v (aT v i)=i:=by
 unfold bT eI aT;by_cases h:v.kind=10
 ·simp only[h,if_true,true_or,true_and];by_cases h2:i%2=0;·simp only[h2,decide_true,if_true];rw[if_pos (by omega)];omega
  ·simp only[h2,decide_false];rw[if_pos (by simp;omega)];simp;omega
 ·simp only[h,if_false,false_or];rw[if_pos (by simp;omega)]
theorem mq(p:List GStep)(v:aa): ∀(k:Nat)(hk:k≤v.l.length)(q:List GStep),q∈cG p v k→q=p∨ ∃i,∃hi:i<v.l.length,q∈pathsG (p++[aT v i]) v.l[i]|0,_,q,h=>by rw[iq] at h;exact .inl (by simpa using h)|k+1,hk,q,h=>by rw[fE p v (by omega)] at h;rcases List.mem_append.1 h with h|h;(·exact mq p v k (by omega) q h);·exact .inr ⟨k,by omega,h⟩
theorem jH(v:aa): ∀(p q:List GStep),q∈pathsG p v→ ∃r x,q=p++r∧yc v r=some x:=by
 refine aa.ind (p:=fun v=> ∀(p q:List GStep),q∈pathsG p v→ ∃r x,q=p++r∧yc v r=some x) (fun v IH p q h=> ?_) v;rw[←iQ] at h;rcases mq p v _ (Nat.le_refl _) q h with rfl|⟨i,hi,h⟩;·exact⟨[],v,by simp,rfl⟩
 ·obtain⟨r,x,hq,hr⟩:=IH i hi _ _ h;refine⟨aT v i::r,x,by rw[hq];simp,?_⟩;rw[yc,ij (pr v hi) hi];exact hr
theorem rU{v:aa}{q:List GStep}(h:q∈pathsG [] v): ∃x,yc v q=some x:=by
 obtain⟨r,x,rfl,hr⟩:=jH v [] q h;exact⟨x,by simpa using hr⟩
section
mutual
def preG : aa → List aa
  | ⟨k, n, x, s, l⟩ => ⟨k, n, x, s, l⟩ :: preL l
def preL : List aa → List aa
  | [] => []
  | a :: l => preG a ++ preL l
end
theorem qG(v:aa):preG v=v::preL v.l:=by
 cases v;rw[preG]
theorem pz(a:aa): ∀(l:List aa),preL (l++[a])=preL l++preG a|[]=>by simp[preL]|b::l=>by simp[preL,pz a l]
mutual
theorem preG_len : ∀ (v : aa), (preG v).length ≤ 1 + bulkVal v
  | ⟨k, n, x, s, l⟩ => by rw [preG, bulkVal, List.length_cons]; have := preL_len l; omega
theorem preL_len : ∀ (l : List aa), (preL l).length ≤ bulkVals l
  | [] => by simp [preL]
  | a :: l => by rw [preL, bulkVals, List.length_append]; have := preG_len a; have := preL_len l; omega
end
section
variable {σ : Type} (st : σ → aa → σ × Bool)
mutual
def evG : aa → σ → σ × Bool
  | ⟨k, n, x, t, l⟩, s => match st s ⟨k, n, x, t, l⟩ with
    | (s1, true) => evL l s1
    | (s1, false) => (s1, false)
def evL : List aa → σ → σ × Bool
  | [], s => (s, true)
  | a :: l, s => match evG a s with
    | (s1, true) => evL l s1
    | (s1, false) => (s1, false)
end
theorem r7{v:aa}{s s1:σ}(h:st s v=(s1,true)):evG st v s=evL st v.l s1:=by
 cases v;rw[evG,h]
theorem qc{v:aa}{s s1:σ}(h:st s v=(s1,false)):evG st v s=(s1,false):=by
 cases v;rw[evG,h]
theorem km : ∀ (l l' : List aa) (s : σ), evL st (l ++ l') s = match evL st l s with
    | (s1, true) => evL st l' s1
    | (s1, false) => (s1, false)
  | [], l', s => by simp [evL]
  | a :: l, l', s => by
    rw [List.cons_append, evL, evL]
    rcases evG st a s with ⟨s1, b⟩
    cases b
    · rfl
    · exact km l l' s1
theorem po{l:List aa}{a:aa}{s s1 s2:σ}(h:evL st l s=(s1,true))(h2:evG st a s1=(s2,true)):evL st (l++[a]) s=(s2,true):=by
 rw[km,h];simp only;rw[evL,h2];simp[evL]
theorem xg{l:List aa}{k:Nat}{s s1 s2:σ}(hk:k<l.length)(h:evL st (l.take k) s=(s1,true))(h2:evG st l[k] s1=(s2,false)):evL st l s=(s2,false):=by
 have e:l=l.take k++(l[k]::l.drop (k+1)):=by rw[←List.drop_eq_getElem_cons hk,List.take_append_drop]
 rw[e,km,h];simp only;rw[evL,h2]
theorem kh{B:σ→Nat}: ∀(l:List aa),(∀i(hi:i<l.length),∀s,B (evG st l[i] s).1≤B s+1+bulkVal l[i])→ ∀s,B (evL st l s).1≤B s+bulkVals l|[],_,s=>by simp[evL]|a::l,h,s=>by have h0:=h 0 (by simp) s;simp only[List.getElem_cons_zero] at h0;have h1:=kh (B:=B) l (fun i hi s=>h (i+1) (by simpa using hi) s);rw[evL,bulkVals];revert h0;rcases evG st a s with⟨s1,b⟩;intro h0;cases b;(·simp only at h0 ⊢;omega);·simp only at h0 ⊢;have:=h1 s1;omega
theorem xO{B:σ→Nat}(hb: ∀s x,B (st s x).1≤B s+1)(v:aa): ∀s,B (evG st v s).1≤B s+1+bulkVal v:=by
 refine aa.ind (p:=fun v=> ∀s,B (evG st v s).1≤B s+1+bulkVal v) (fun v IH s=> ?_) v;have h0:=hb s v;rcases hq:st s v with⟨s1,b⟩;rw[hq] at h0;simp only at h0;cases b;·rw[qc st hq];simp only;omega
 ·rw[r7 st hq];have h1:=kh st (B:=B) v.l IH s1;rw[au];omega
theorem yr{B:σ→Nat}(hb: ∀s x,B (st s x).1≤B s+1)(l:List aa)(s:σ):B (evL st l s).1≤B s+bulkVals l:=kh st l (fun i hi s=>xO st hb l[i] s) s
theorem v8{l:List aa}{k:Nat}(hk:k<l.length):bulkVals (l.take k)+(1+bulkVal l[k])≤bulkVals l:=by
 have h2:=dX (l.take (k+1)) (l.drop (k+1));rw[List.take_append_drop,List.take_succ_eq_append_getElem hk,dX] at h2;have h3:bulkVals [l[k]]=1+bulkVal l[k]:=by rw[aB];simp
 omega
end
end
def eT(n:Int):Nat:=Lib.nDigits n.natAbs
theorem qw: ∀k u,Lib.nDigits u≤k+1↔u<10^(k+1)|0,u=>by by_cases h:u<10;(·rw[Lib.nDigits_small h];simp;omega);·rw[Lib.nDigits_big h];(have h2:0<Lib.nDigits (u/10):=by by_cases h3:u/10<10;(·rw[Lib.nDigits_small h3];omega);·rw[Lib.nDigits_big h3];omega);simp;omega|k+1,u=>by by_cases h:u<10;(·rw[Lib.nDigits_small h];(have:10≤10^(k+1+1):=by have:=Nat.pow_le_pow_right (show 0<10 by omega) (show 1≤k+1+1 by omega);simpa using this);omega);·rw[Lib.nDigits_big h,Nat.add_le_add_iff_right,qw k (u/10),Nat.pow_succ 10 (k+1)];omega
theorem jD(n:Int):eT n≤17↔ -100000000000000000<n∧n<100000000000000000:=by
 unfold eT;rw[qw 16];omega
theorem xt(n:Int):1≤eT n:=by
 unfold eT;by_cases h:n.natAbs<10;·rw[Lib.nDigits_small h];omega
 ·rw[Lib.nDigits_big h];omega
theorem yv{n:Int}(h:a8 n):eT n≤19:=by
 obtain⟨h1,h2⟩:=h;unfold eT;rw[qw 18];omega
def nd(x:Int):Nat:=if x=0 then 0 else Lib.nDigits x.natAbs
theorem ka(x:Int):(x.tdiv 10).natAbs=x.natAbs/10:=by
 rw[Int.natAbs_tdiv];rfl
theorem uZ{x:Int}(h:x≠0):nd x=nd (x.tdiv 10)+1:=by
 have h1:=ka x;unfold nd;rw[if_neg h];by_cases h2:x.natAbs<10;·rw[Lib.nDigits_small h2,if_pos (by omega)]
 ·rw[Lib.nDigits_big h2,if_neg (by omega),h1]
theorem xU(n:Int):eT n=1+nd (n.tdiv 10):=by
 by_cases h:n=0;·subst h;unfold eT nd;rw[Lib.nDigits_small (by decide)];rfl
 ·have h1:=uZ h;have h2:nd n=eT n:=by unfold nd eT;rw[if_neg h]
  omega
def aZ(n x:Int):Bool:=if x=0 then decide (-1000000000000000≤n∧n≤1000000000000000) else decide (-16≤x∧x≤ -1)&&decide (eT n≤17)&&decide (n.tmod 10≠0)
def bg(m e:Int):Bool:=if m=0 then decide (e=0) else decide (-65535≤m∧m≤65535)&&decide (m.tmod 2≠0)&&decide (-16≤e∧e≤45)&&(decide (e≤30)||decide (-65535≤m*2^(e-30).toNat∧m*2^(e-30).toNat≤65535))
def aI(m e:Int):Int×Int:=if 0≤e then(m*2^e.toNat,0) else(m*5^(-e).toNat,e)
def l7(a:Nat)(e:Int):Nat:=a*2^(-e).toNat
def fC(p:Nat)(e:Int):Nat:=p*2^e.toNat
def gD(a p:Nat)(e:Int):Nat:=l7 a e/fC p e
def wg(a p:Nat)(e:Int):Nat:=l7 a e%fC p e
def gh(a p:Nat)(e:Int):Prop:=gD a p e≤65535∧ ∀e',-16≤e'→e'<e→65535<gD a p e'
theorem nH(a p:Nat)(hp:0<p)(e:Int):gD a p (e+1)=gD a p e/2:=by
 unfold gD l7 fC;rcases Int.lt_or_le e 0 with h|h
 ·have h1:(-e).toNat=(-(e+1)).toNat+1:=by omega
  have h2:e.toNat=0:=by omega
  have h3:(e+1).toNat=0:=by omega
  rw[h1,h2,h3,Nat.pow_succ,Nat.pow_zero,Nat.mul_one,Nat.div_div_eq_div_mul,←Nat.mul_assoc];rw[Nat.mul_div_mul_right _ _ (by omega)]
 ·have h1:(-e).toNat=0:=by omega
  have h2:(-(e+1)).toNat=0:=by omega
  have h3:(e+1).toNat=e.toNat+1:=by omega
  rw[h1,h2,h3,Nat.pow_succ,Nat.pow_zero,Nat.mul_one,Nat.div_div_eq_div_mul,←Nat.mul_assoc]
def dQ(a p:Nat)(e:Int):Nat:=if fC p e<2*wg a p e∨(2*wg a p e=fC p e∧gD a p e%2=1) then gD a p e+1 else gD a p e
def ee:Nat→Int→Int→Int×Int|0,m,e=>(m,e)|f+1,m,e=>if m.tmod 2=0 then ee f (m.tdiv 2) (e+1) else(m,e)
def bB(m e:Int):Option (Int×Int):=if m=0 then some (0,0) else if bg (ee 20 m e).1 (ee 20 m e).2 then some (ee 20 m e) else none
theorem gG{f:Nat}{m e:Int}(h:m.tmod 2=0):ee (f+1) m e=ee f (m.tdiv 2) (e+1):=by
 rw[ee,if_pos h]
theorem kZ{m e:Int}(h:m.tmod 2≠0): ∀f,ee f m e=(m,e)|0=>rfl|f+1=>by rw[ee,if_neg h]
theorem lL(m:Int):(m.tdiv 2).natAbs=m.natAbs/2:=by
 rw[Int.natAbs_tdiv];rfl
theorem kE{m:Int}(h:m.tmod 2=0):m=2*m.tdiv 2:=by
 have:=Int.mul_tdiv_add_tmod m 2;omega
def jy:Nat→Nat→Nat→Int→Option Int|0,_,_,_=>none|f+1,a,p,e=>if gD a p e≤65535 then some e else jy f a p (e+1)
theorem lr{a p:Nat}{e:Int}(h:gh a p e): ∀(f:Nat)(e0:Int),-16≤e0→e0≤e→e<e0+f→jy f a p e0=some e|0,e0,_,_,h3=>by omega|f+1,e0,h1,h2,h3=>by rw[jy];by_cases he:e0=e;(·subst he;rw[if_pos h.1]);·rw[if_neg (by have:=h.2 e0 h1 (by omega);omega)];exact lr h f (e0+1) (by omega) (by omega) (by omega)
def mh(n:Int)(m:Nat):Int:=if n<0 then-(m:Int) else m
theorem kI(n:Int)(m:Nat):(mh n m).natAbs=m:=by
 unfold mh;split<;>omega
def uu(n:Int)(p:Nat)(e:Int):Option (Int×Int):=bB (mh n (dQ n.natAbs p e)) e
def eM(n x:Int):Option (Int×Int):=match jy 67 n.natAbs (10^(-x).toNat) (-16) with|some e=>uu n (10^(-x).toNat) e|none=>none
theorem rP{n x e:Int}(h:gh n.natAbs (10^(-x).toNat) e)(h0: -16≤e)(h1:e≤50):eM n x=uu n (10^(-x).toNat) e:=by
 unfold eM;rw[lr h 67 (-16) (by omega) h0 (by omega)]
theorem pW{a p:Nat}{e:Int}(h:gD a p e≤65535):dQ a p e≤65536:=by
 unfold dQ;split<;>omega
theorem vH(a p:Nat)(e:Int):gD a p e≤dQ a p e:=by
 unfold dQ;split<;>omega
theorem tN{a p:Nat}{e:Int}(hp:0<p)(h:gh a p e)(h0: -16<e):32768≤gD a p e:=by
 have h1:=h.2 (e-1) (by omega) (by omega);have h2:=nH a p hp (e-1);rw[show e-1+1=e by omega] at h2;omega
theorem pA: ∀(f:Nat)(m e:Int),∃j:Nat,(ee f m e).2=e+j∧m=(ee f m e).1*2^j|0,m,e=>⟨0,by simp[ee],by simp[ee]⟩|f+1,m,e=>by rw[ee];split;(·rename_i h;obtain⟨j,h1,h2⟩:=pA f (m.tdiv 2) (e+1);refine⟨j+1,by rw[h1];omega,?_⟩;have h3:=kE h;rw[Int.pow_succ,←Int.mul_assoc,←h2];omega);·exact⟨0,by simp,by simp⟩
theorem my{m e:Int}(h0:32768≤m.natAbs)(he:31≤e):bB m e=none:=by
 unfold bB;rw[if_neg (by omega)];obtain⟨j,h1,h2⟩:=pA 20 m e;have h3:bg (ee 20 m e).1 (ee 20 m e).2=false:=by rw[Bool.eq_false_iff];intro h;unfold bg at h;generalize(ee 20 m e).1=m' at h h2;rw[h1] at h;split at h;(·rename_i h4;subst h4;simp at h2;omega);·simp only[Bool.and_eq_true,Bool.or_eq_true,decide_eq_true_eq] at h;obtain⟨_,h5⟩:=h;have h6:=h5.resolve_left (by omega);obtain⟨i,hi⟩: ∃i:Nat,(e+j-30).toNat=j+1+i:=⟨(e-31).toNat,by omega⟩;rw[hi,Int.pow_add,Int.pow_succ,←Int.mul_assoc,←Int.mul_assoc,←h2] at h6;(have h7:(m*2*2^i).natAbs=m.natAbs*2*2^i:=by rw[Int.natAbs_mul,Int.natAbs_mul,Int.natAbs_pow];rfl);have h8:0<2^i:=Nat.pow_pos (by omega);have h9:m.natAbs*2*1≤m.natAbs*2*2^i:=Nat.mul_le_mul_left _ h8;omega
 rw[h3];rfl
theorem pB: ∀(f:Nat)(m e:Int),m.natAbs<2^f→m≠0→ee (f+1) m e=ee f m e|0,m,e,h,h0=>by simp at h;omega|f+1,m,e,h,h0=>by by_cases hm:m.tmod 2=0;(·have h1:=lL m;have h2:=kE hm;rw[gG hm,gG hm];rw[Nat.pow_succ] at h;exact pB f _ _ (by omega) (by omega));·rw[kZ hm,kZ hm]
theorem kS{n e:Int}:bB (mh n 65536) e=bB (mh n 32768) (e+1):=by
 have h1:(mh n 65536).tmod 2=0:=by unfold mh;split<;>rfl
 have h2:(mh n 65536).tdiv 2=mh n 32768:=by unfold mh;split<;>rfl
 have h3:ee 20 (mh n 65536) e=ee 19 (mh n 32768) (e+1):=by rw[gG h1,h2]
 have h4:ee 19 (mh n 32768) (e+1)=ee 20 (mh n 32768) (e+1):=(pB 19 _ _ (by rw[kI];decide) (by unfold mh;split<;>omega)).symm;unfold bB;have n1:mh n 65536≠0:=fun e=>by have:=kI n 65536;rw[e] at this;simp at this
 have n2:mh n 32768≠0:=fun e=>by have:=kI n 32768;rw[e] at this;simp at this
 rw[if_neg n1,if_neg n2,h3,h4]
theorem zR(A p:Nat)(hp:0<p):(p≤2*(A%p)→2*A/p=2*(A/p)+1∧2*A%p=2*(A%p)-p)∧(¬p≤2*(A%p)→2*A/p=2*(A/p)∧2*A%p=2*(A%p)):=by
 have h1:=Nat.div_add_mod A p;have h2:=Nat.mod_lt A hp;generalize A/p=q at h1 ⊢;generalize A%p=r at h1 h2 ⊢;refine⟨fun h=> ?_,fun h=> ?_⟩
 ·have e:2*A=(2*r-p)+(2*q+1)*p:=by(have:(2*q+1)*p=2*(p*q)+p:=by rw[Nat.add_mul,Nat.mul_assoc,Nat.mul_comm q p];omega);omega
  rw[e,Nat.add_mul_div_right _ _ hp,Nat.add_mul_mod_self_right,Nat.div_eq_of_lt (by omega),Nat.mod_eq_of_lt (by omega)];omega
 ·have e:2*A=2*r+(2*q)*p:=by(have:(2*q)*p=2*(p*q):=by rw[Nat.mul_assoc,Nat.mul_comm q p]);omega
  rw[e,Nat.add_mul_div_right _ _ hp,Nat.add_mul_mod_self_right,Nat.div_eq_of_lt (by omega),Nat.mod_eq_of_lt (by omega)];omega
def fi(n:Int):Bool:=decide (0≤n∧n≤1114111)&& !decide (55296≤n∧n≤57343)
def eO(n:Int):Nat:=if fi n then(if n<128 then 1 else if n<2048 then 2 else if n<65536 then 3 else 4) else 0
def gB(l:List UInt8):Option (Nat×Nat):=if l=[]∨Lib.decodeL l=(65533,1) then none else some (Lib.decodeL l)
def bO(l:List UInt8)(i:Nat):Nat:=(l.getD i 0).toNat
def dS(l:List UInt8)(n0:Nat):Nat→Int|0=>n0|j+1=>64*dS l n0 j+bO l (j+1)-128
def fm(x:Nat):Option (Nat×Nat):=if x<128 then some (1,x) else if 192≤x∧x≤223 then some (2,x-192) else if 224≤x∧x≤239 then some (3,x-224) else if 240≤x∧x≤247 then some (4,x-240) else none
theorem fS(l:List UInt8)(i:Nat):bO l i<256:=(l.getD i 0).toNat_lt
theorem kH{l:List UInt8}(hl:0<l.length):gB l=if Lib.decodeN l.length (bO l 0) (bO l 1) (bO l 2) (bO l 3)=(65533,1) then none else some (Lib.decodeN l.length (bO l 0) (bO l 1) (bO l 2) (bO l 3)):=by
 have hne:l≠[]:=fun e=>by subst e;simp at hl
 unfold gB;rw[Lib.decodeL_N];simp only[hne,false_or];rfl
theorem nM{l:List UInt8}(hl:0<l.length)(h:fm (bO l 0)=none):gB l=none:=by
 rw[kH hl];have h0:=fS l 0;unfold fm at h;generalize bO l 0=x at*;have hx: ¬x<128∧x/32≠6∧x/16≠14∧x/8≠30:=by split at h;(·cases h);·split at h;(·cases h);·split at h;(·cases h);·split at h;(·cases h);·omega
 have e:Lib.decodeN l.length x (bO l 1) (bO l 2) (bO l 3)=(65533,1):=by unfold Lib.decodeN;rw[if_neg hx.1,if_neg (by omega),if_neg (by omega),if_neg (by omega)]
 rw[e,if_pos rfl]
theorem xd{l:List UInt8}(hl:0<l.length)(h:bO l 0<128):gB l=some (bO l 0,1):=by
 rw[kH hl];have e:Lib.decodeN l.length (bO l 0) (bO l 1) (bO l 2) (bO l 3)=(bO l 0,1):=by unfold Lib.decodeN;rw[if_pos h]
 rw[e,if_neg (by intro e;injection e with e1 e2;omega)]
theorem ep{x W n0:Nat}(h:fm x=some (W,n0))(hx:x<256):(W=1∧n0=x∧x<128)∨(W=2∧x/32=6∧n0=x%32)∨(W=3∧x/16=14∧n0=x%16)∨(W=4∧x/8=30∧n0=x%8):=by
 unfold fm at h;split at h;·injection h with h;injection h with h1 h2;omega
 ·split at h;·injection h with h;injection h with h1 h2;omega
  ·split at h;·injection h with h;injection h with h1 h2;omega
   ·split at h;·injection h with h;injection h with h1 h2;omega
    ·cases h
theorem kb{l:List UInt8}{W n0:Nat}(hl:0<l.length)(h:fm (bO l 0)=some (W,n0))(hs:l.length<W):gB l=none:=by
 have hb:=fS l 0;rw[kH hl];have e:Lib.decodeN l.length (bO l 0) (bO l 1) (bO l 2) (bO l 3)=(65533,1)→(if Lib.decodeN l.length (bO l 0) (bO l 1) (bO l 2) (bO l 3)=(65533,1) then none else some (Lib.decodeN l.length (bO l 0) (bO l 1) (bO l 2) (bO l 3)))=none:=fun e=>by rw[if_pos e]
 refine e ?_;unfold Lib.decodeN;rcases ep h hb with⟨h1,h2,h3⟩|⟨h1,h2,h3⟩|⟨h1,h2,h3⟩|⟨h1,h2,h3⟩;·omega
 all_goals rw[if_neg (by omega),if_neg (by omega),if_neg (by omega),if_neg (by omega)]
def da(y:Nat):Prop:=128≤y∧y≤191
instance (y : Nat) : Decidable (da y) := by unfold da; infer_instance
theorem og{l:List UInt8}{W n0 j:Nat}(hl:0<l.length)(h:fm (bO l 0)=some (W,n0))(hj:1≤j)(hjW:j<W)(hb: ¬da (bO l j)):gB l=none:=by
 have h0:=fS l 0;rw[kH hl];unfold da at hb;have e:Lib.decodeN l.length (bO l 0) (bO l 1) (bO l 2) (bO l 3)=(65533,1)→(if Lib.decodeN l.length (bO l 0) (bO l 1) (bO l 2) (bO l 3)=(65533,1) then none else some (Lib.decodeN l.length (bO l 0) (bO l 1) (bO l 2) (bO l 3)))=none:=fun e=>by rw[if_pos e]
 refine e ?_;unfold Lib.decodeN;have hj3:j=1∨j=2∨j=3:=by rcases ep h h0 with⟨h1,h2,h3⟩|⟨h1,h2,h3⟩|⟨h1,h2,h3⟩|⟨h1,h2,h3⟩<;>omega
 have k1:=fS l 1;have k2:=fS l 2;have k3:=fS l 3;have hbb:(j=1∧bO l 1/64≠2)∨(j=2∧bO l 2/64≠2)∨(j=3∧bO l 3/64≠2):=by rcases hj3 with rfl|rfl|rfl;(·left;exact⟨rfl,by omega⟩);(·right;left;exact⟨rfl,by omega⟩);·right;right;exact⟨rfl,by omega⟩
 rcases ep h h0 with⟨h1,h2,h3⟩|⟨h1,h2,h3⟩|⟨h1,h2,h3⟩|⟨h1,h2,h3⟩;·omega
 all_goals rw[if_neg (by omega),if_neg (by omega),if_neg (by omega),if_neg (by omega)]
theorem xD{l:List UInt8}{n0 j:Nat}(hc: ∀i,1≤i→i≤j→da (bO l i)): ∃m:Nat,dS l n0 j=m∧m<(n0+1)*64^j:=by
 induction j with|zero=>exact⟨n0,rfl,by simp⟩|succ j ih=>obtain⟨m,h1,h2⟩:=ih (fun i hi hi2=>hc i hi (by omega));obtain⟨c1,c2⟩:=hc (j+1) (by omega) (by omega);refine⟨64*m+(bO l (j+1)-128),?_,?_⟩;(·rw[dS,h1];omega);·rw[Nat.pow_succ,←Nat.mul_assoc];generalize(n0+1)*64^j=z at h2;omega
theorem et(n:Int):fi n=true↔0≤n∧n≤1114111∧(n<55296∨57343<n):=by
 unfold fi;simp only[Bool.and_eq_true,decide_eq_true_eq,Bool.not_eq_true',decide_eq_false_iff_not];omega
theorem fs(n:Int):(eO n=0∧fi n=false)∨(eO n=1∧0≤n∧n<128)∨(eO n=2∧128≤n∧n<2048)∨(eO n=3∧2048≤n∧n<65536∧(n<55296∨57343<n))∨(eO n=4∧65536≤n∧n≤1114111):=by
 unfold eO;cases h:fi n;·left;simp
 ·have:=(et n).1 h;simp only[if_true];split;·omega
  ·split;·omega
   ·split<;>omega
theorem gl{d:Nat×Nat}(h:d=(65533,1)):(if d=(65533,1) then none else some d)=none:=by
 rw[if_pos h]
theorem um{d:Nat×Nat}{z W:Nat}(h:d=(z,W))(hW:W≠1):(if d=(65533,1) then none else some d)=some (z,W):=by
 rw[if_neg (by rw[h];intro e;injection e with e1 e2;exact hW e2),h]
theorem lM{l:List UInt8}{W n0:Nat}(hl:0<l.length)(h:fm (bO l 0)=some (W,n0))(hs:W≤l.length)(hc: ∀i,1≤i→i<W→da (bO l i)):(eO (dS l n0 (W-1))=W→gB l=some ((dS l n0 (W-1)).toNat,W))∧(eO (dS l n0 (W-1))≠W→gB l=none):=by
 have h0:=fS l 0;have k1:=fS l 1;have k2:=fS l 2;have k3:=fS l 3;rw[kH hl];rcases ep h h0 with⟨rfl,rfl,h3⟩|⟨rfl,h2,rfl⟩|⟨rfl,h2,rfl⟩|⟨rfl,h2,rfl⟩
 ·have e:Lib.decodeN l.length (bO l 0) (bO l 1) (bO l 2) (bO l 3)=(bO l 0,1):=by unfold Lib.decodeN;rw[if_pos h3]
  rw[e];have e2:dS l (bO l 0) (1-1)=bO l 0:=rfl;rw[e2];refine⟨fun _=> ?_,fun hw=>absurd ?_ hw⟩;·rw[if_neg (by intro e;injection e with e1 e2;omega)];simp
  ·rcases fs (bO l 0:Int) with h|h|h|h|h;·have:=h.2;rw[Bool.eq_false_iff] at this;exact absurd ((et _).2 (by omega)) this
   all_goals omega
 ·have c1:=hc 1 (by omega) (by omega);unfold da at c1;have e2:dS l (bO l 0%32) (2-1)=((bO l 0%32*64+bO l 1%64:Nat):Int):=by show dS l _ 1=_;rw[dS,dS];simp only[Nat.zero_add,Nat.reduceAdd];omega
  rw[e2];generalize hz:bO l 0%32*64+bO l 1%64=z;have hz2:z<2048:=by omega
  have e:Lib.decodeN l.length (bO l 0) (bO l 1) (bO l 2) (bO l 3)=if z≥128 then(z,2) else(65533,1):=by unfold Lib.decodeN;rw[if_neg (by omega),if_pos (by omega),hz]
  rcases fs (z:Int) with h|h|h|h|h;·have:=h.2;rw[Bool.eq_false_iff] at this;exact absurd ((et _).2 (by omega)) this
  ·rw[gl (e.trans (if_neg (by omega)))];exact⟨fun hw=>by omega,fun _=>rfl⟩
  ·rw[um (e.trans (if_pos (by omega))) (by omega)];exact⟨fun _=>by simp,fun hw=>by omega⟩
  all_goals omega
 ·have c1:=hc 1 (by omega) (by omega);have c2:=hc 2 (by omega) (by omega);unfold da at c1 c2;have e2:dS l (bO l 0%16) (3-1)=((bO l 0%16*4096+bO l 1%64*64+bO l 2%64:Nat):Int):=by show dS l _ 2=_;rw[dS,dS,dS];simp only[Nat.zero_add,Nat.reduceAdd];omega
  rw[e2];generalize hz:bO l 0%16*4096+bO l 1%64*64+bO l 2%64=z;have hz2:z<65536:=by omega
  have e:Lib.decodeN l.length (bO l 0) (bO l 1) (bO l 2) (bO l 3)=if z≥2048∧(z<55296∨(57344≤z∧z≤1114111)) then(z,3) else(65533,1):=by unfold Lib.decodeN;rw[if_neg (by omega),if_neg (by omega),if_pos (by omega),hz]
  rcases fs (z:Int) with h|h|h|h|h;·have:=h.2;rw[Bool.eq_false_iff,Ne,et] at this;rw[gl (e.trans (if_neg (by omega)))];exact⟨fun hw=>by omega,fun _=>rfl⟩
  ·rw[gl (e.trans (if_neg (by omega)))];exact⟨fun hw=>by omega,fun _=>rfl⟩
  ·rw[gl (e.trans (if_neg (by omega)))];exact⟨fun hw=>by omega,fun _=>rfl⟩
  ·rw[um (e.trans (if_pos (by omega))) (by omega)];exact⟨fun _=>by simp,fun hw=>by omega⟩
  ·omega
 ·have c1:=hc 1 (by omega) (by omega);have c2:=hc 2 (by omega) (by omega);have c3:=hc 3 (by omega) (by omega);unfold da at c1 c2 c3;have e2:dS l (bO l 0%8) (4-1)=((bO l 0%8*262144+bO l 1%64*4096+bO l 2%64*64+bO l 3%64:Nat):Int):=by show dS l _ 3=_;rw[dS,dS,dS,dS];simp only[Nat.zero_add,Nat.reduceAdd];omega
  rw[e2];generalize hz:bO l 0%8*262144+bO l 1%64*4096+bO l 2%64*64+bO l 3%64=z;have e:Lib.decodeN l.length (bO l 0) (bO l 1) (bO l 2) (bO l 3)=if z≥65536∧(z<55296∨(57344≤z∧z≤1114111)) then(z,4) else(65533,1):=by unfold Lib.decodeN;rw[if_neg (by omega),if_neg (by omega),if_neg (by omega),if_pos (by omega),hz]
  rcases fs (z:Int) with h|h|h|h|h;·have:=h.2;rw[Bool.eq_false_iff,Ne,et] at this;rw[gl (e.trans (if_neg (by omega)))];exact⟨fun hw=>by omega,fun _=>rfl⟩
  ·rw[gl (e.trans (if_neg (by omega)))];exact⟨fun hw=>by omega,fun _=>rfl⟩
  ·rw[gl (e.trans (if_neg (by omega)))];exact⟨fun hw=>by omega,fun _=>rfl⟩
  ·rw[gl (e.trans (if_neg (by omega)))];exact⟨fun hw=>by omega,fun _=>rfl⟩
  ·rw[um (e.trans (if_pos (by omega))) (by omega)];exact⟨fun _=>by simp,fun hw=>by omega⟩
def b7(s:ByteArray):Bool:=Lib.validD s.data.toList
theorem tf{l:List UInt8}(hl:0<l.length):(gB l=none→Lib.validD l=false)∧(∀n w,gB l=some (n,w)→Lib.validD l=Lib.validD (l.drop w)∧1≤w∧w≤l.length):=by
 have hne:l≠[]:=fun e=>by subst e;simp at hl
 rw[Lib.validD_step l hne];have hw:1≤(Lib.decodeL l).2∧(Lib.decodeL l).2≤l.length:=by refine⟨Lib.decodeL_width l,?_⟩;rw[Lib.decodeL_N];rcases Lib.decodeN_shape l.length (l.getD 0 0).toNat (l.getD 1 0).toNat (l.getD 2 0).toNat (l.getD 3 0).toNat with⟨_,e⟩|⟨_,h,_,_,e⟩|⟨_,h,_,_,_,_,e⟩|⟨_,h,_,_,_,_,_,e⟩|e<;>rw[e]<;>simp only<;>omega
 unfold gB;simp only[hne,false_or];refine⟨fun h=> ?_,fun n w h=> ?_⟩
 ·split at h;·rename_i e;rw[e];rfl
  ·cases h
 ·split at h;·cases h
  ·rename_i e;injection h with h;rw[if_neg (fun h2=>e (Prod.ext h2.1 h2.2)),h];rw[h] at hw;simp only at hw;exact⟨rfl,hw.1,hw.2⟩
end Go.Proofs.YtodpdjehjllhdaaGreatDoor
