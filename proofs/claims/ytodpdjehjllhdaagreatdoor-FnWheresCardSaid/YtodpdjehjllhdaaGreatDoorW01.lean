/- Part of a proof: contracts and plain laws. -/
import Derived.Test.YtodpdjehjllhdaaGreatDoorW00
import Derived.Lib.ItoaNum
import Derived.Lib.ValidLaws
set_option linter.unusedVariables false
set_option linter.unusedSimpArgs false
set_option maxRecDepth 100000
set_option maxHeartbeats 20000000
namespace Go.Proofs.YtodpdjehjllhdaaGreatDoor
open Go.RowKit
structure aa where
  kind : Int
  n : Int
  x : Int
  s : ByteArray
  l : List aa
mutual
def aa.same : aa → aa → Bool
  | ⟨k, n, x, s, l⟩, ⟨k', n', x', s', l'⟩ => decide (k = k') && decide (n = n') && decide (x = x') && decide (s = s') && aa.sameL l l'
def aa.sameL : List aa → List aa → Bool
  | [], [] => true
  | a :: l, b :: l' => aa.same a b && aa.sameL l l'
  | _, _ => false
end
mutual
theorem aa.same_eq : ∀ (a b : aa), aa.same a b = true ↔ a = b
  | ⟨k, n, x, s, l⟩, ⟨k', n', x', s', l'⟩ => by
    simp only [aa.same, Bool.and_eq_true, decide_eq_true_eq, aa.sameL_eq l l', aa.mk.injEq, and_assoc]
theorem aa.sameL_eq : ∀ (a b : List aa), aa.sameL a b = true ↔ a = b
  | [], [] => by simp [aa.sameL]
  | [], _ :: _ => by simp [aa.sameL]
  | _ :: _, [] => by simp [aa.sameL]
  | a :: l, b :: l' => by simp only [aa.sameL, Bool.and_eq_true, aa.same_eq a b, aa.sameL_eq l l', List.cons.injEq]
end
instance : DecidableEq aa := fun a b => if h : aa.same a b = true then .isTrue ((aa.same_eq a b).1 h) else .isFalse fun e => h ((aa.same_eq a b).2 e)
def bq(v:aa):Prop:=aT v.kind∧aT v.n∧aT v.x∧v.s.size≤maxLen
mutual
def gG (w : World) : aa → List Nat → List Value → Prop
  | ⟨k, n, x, s, l⟩, F, cs => ∃ A c, cs = [.int .i64 k, .int .i64 n, .int .i64 x, .string s, .slice A l.length c] ∧ (aT k ∧ aT n ∧ aT x ∧ s.size ≤ maxLen) ∧ l.length ≤ c ∧ c ≤ maxLen ∧
      ((l = [] ∧ F = [] ∧ (A = none → c = 0)) ∨ ∃ b off F' xs, A = some ⟨b, off, none⟩ ∧ F = b :: F' ∧ rpVals w l F' xs ∧ ba w b off xs)
def rpVals (w : World) : List aa → List Nat → List Value → Prop
  | [], F, xs => F = [] ∧ xs = []
  | a :: l, F, xs => ∃ F1 F2 cs ys, F = F1 ++ F2 ∧ xs = cs ++ ys ∧ gG w a F1 cs ∧ rpVals w l F2 ys
end
mutual
theorem gG.al {w w' : World} : ∀ (v : aa) {F : List Nat} {cs : List Value}, gG w v F cs → (∀ b, b ∈ F → w'.heap[b]? = w.heap[b]?) → gG w' v F cs
  | ⟨k, n, x, s, l⟩, F, cs, h, hk => by
    simp only [gG] at h ⊢
    obtain ⟨A, c, h1, h2, h3, h4, h5⟩ := h
    refine ⟨A, c, h1, h2, h3, h4, ?_⟩
    rcases h5 with h5 | ⟨b, off, F', xs, hA, hF, he, hc⟩
    · exact .inl h5
    · subst hF
      exact .inr ⟨b, off, F', xs, hA, rfl, rpVals.al l he fun b hb => hk b (List.mem_cons_of_mem _ hb), hc.al (hk _ (List.mem_cons_self ..))⟩
theorem rpVals.al {w w' : World} : ∀ (l : List aa) {F : List Nat} {xs : List Value}, rpVals w l F xs → (∀ b, b ∈ F → w'.heap[b]? = w.heap[b]?) → rpVals w' l F xs
  | [], _, _, h, _ => by simp only [rpVals] at h ⊢; exact h
  | a :: l, F, xs, h, hk => by
    simp only [rpVals] at h ⊢
    obtain ⟨F1, F2, cs, ys, hF, hx, hr, he⟩ := h
    subst hF
    exact ⟨F1, F2, cs, ys, rfl, hx, gG.al a hr fun b hb => hk b (List.mem_append_left _ hb), rpVals.al l he fun b hb => hk b (List.mem_append_right _ hb)⟩
end
theorem gG.shape{w:World}{v:aa}{F:List Nat}{cs:List Value}(h:gG w v F cs): ∃A c,cs=[.int .i64 v.kind,.int .i64 v.n,.int .i64 v.x,.string v.s,.slice A v.l.length c]:=by
 cases v;simp only[gG] at h;obtain⟨A,c,h1,_⟩:=h;exact⟨A,c,h1⟩
instance : aD aa where
  wd := 5
  rp := fun w F v cs => gG w v F cs
  len := fun h => by obtain ⟨A, c, rfl⟩ := h.shape; rfl
  one := fun h u hu => by obtain ⟨A, c, rfl⟩ := h.shape; simp at hu; rcases hu with rfl | rfl | rfl | rfl | rfl <;> rfl
  al := fun h hk => gG.al _ h hk
theorem ia{w:World}: ∀(l:List aa)(F:List Nat)(xs:List Value),rpVals w l F xs↔aL w l F xs|[],F,xs=>by simp only[rpVals,aL]|a::l,F,xs=>by simp only[rpVals,aL];constructor;(·rintro⟨F1,F2,cs,ys,h1,h2,h3,h4⟩;exact⟨F1,F2,cs,ys,h1,h2,h3,(ia l F2 ys).1 h4⟩);·rintro⟨F1,F2,cs,ys,h1,h2,h3,h4⟩;exact⟨F1,F2,cs,ys,h1,h2,h3,(ia l F2 ys).2 h4⟩
theorem cZ{w:World}{v:aa}{F:List Nat}{cs:List Value}:aD.rp w F v cs↔ ∃A c,cs=[.int .i64 v.kind,.int .i64 v.n,.int .i64 v.x,.string v.s,.slice A v.l.length c]∧bq v∧uo w F v.l A c:=by
 show gG w v F cs↔_;obtain⟨k,n,x,s,l⟩:=v;simp only[gG,ia];constructor;·rintro⟨A,c,h1,h2,h3,h4,h5⟩;exact⟨A,c,h1,h2,h3,h4,h5⟩
 ·rintro⟨A,c,h1,h2,h3,h4,h5⟩;exact⟨A,c,h1,h2,h3,h4,h5⟩
theorem RA.zE{w:World}{v:aa}{cs:List Value}(h:RA w v cs): ∃A c,cs=[.int .i64 v.kind,.int .i64 v.n,.int .i64 v.x,.string v.s,.slice A v.l.length c]∧SA w v.l A c∧bq v:=by
 obtain⟨F,hr,hF⟩:=h;obtain⟨A,c,h1,h2,h3⟩:=cZ.1 hr;exact⟨A,c,h1,⟨F,h3,hF⟩,h2⟩
theorem RF.val{base:Nat}{w:World}{v:aa}{A:Option Addr}{c:Nat}(hI:bq v)(h:SF base w v.l A c):RF base w v [.int .i64 v.kind,.int .i64 v.n,.int .i64 v.x,.string v.s,.slice A v.l.length c]:=by
 obtain⟨F,h1,h2⟩:=h;exact⟨F,cZ.2 ⟨A,c,rfl,hI,h1⟩,h2⟩
theorem SA.bI{w:World}{l:List aa}{A:Option Addr}{c:Nat}(h:SA w l A c){i:Nat}(hi:i<l.length): ∃b off A' c',A=some ⟨b,off,none⟩∧b<w.heap.size∧bq l[i]∧SA w l[i].l A' c'∧w.cell? ⟨b,off+i*5,none⟩=some (.int .i64 l[i].kind)∧w.cell? ⟨b,off+i*5+1,none⟩=some (.int .i64 l[i].n)∧w.cell? ⟨b,off+i*5+1+1,none⟩=some (.int .i64 l[i].x)∧w.cell? ⟨b,off+i*5+1+1+1,none⟩=some (.string l[i].s)∧w.cell? ⟨b,off+i*5+1+1+1+1,none⟩=some (.slice A' l[i].l.length c'):=by
 obtain⟨b,off,cs,rfl,hb,hr,hc⟩:=h.at hi;obtain⟨A',c',rfl,hs,hI⟩:=hr.zE;exact⟨b,off,A',c',rfl,hb,hI,hs,hc.c0,hc.c1,hc.c2,hc.c3,hc.c4⟩
mutual
def bulkVal : aa → Nat
  | ⟨_, _, _, s, l⟩ => s.size + bulkVals l
def bulkVals : List aa → Nat
  | [] => 0
  | a :: l => 1 + bulkVal a + bulkVals l
end
theorem av(v:aa):bulkVal v=v.s.size+bulkVals v.l:=by
 cases v;rw[bulkVal]
theorem aC(l:List aa):bulkVals l=l.length+(l.map bulkVal).sum:=by
 induction l with|nil=>simp[bulkVals]|cons a l ih=>simp only[bulkVals,List.length_cons,List.map_cons,List.sum_cons,ih];omega
theorem aa.ind{p:aa→Prop}(h: ∀v:aa,(∀i(hi:i<v.l.length),p v.l[i])→p v)(v:aa):p v:=by
 have key: ∀n(v:aa),bulkVal v≤n→p v:=by intro n;induction n with|zero=>intro v hv;refine h v fun i hi=> ?_;rw[av,aC] at hv;omega|succ n ih=>intro v hv;refine h v fun i hi=>ih _ ?_;have:=et bulkVal v.l hi;rw[av,aC] at hv;omega
 exact key _ v (Nat.le_refl _)
section
def gY{α:Type}[DecidableEq α](lt:α→α→Bool):List α→List α→Bool|[],[]=>false|[],_::_=>true|_::_,[]=>false|a::p,b::q=>if a=b then gY lt p q else lt a b
section
variable {α : Type} {lt : α → α → Bool}
structure wu (lt : α → α → Bool) : Prop where
  irr : ∀ a, lt a a = false
  trans : ∀ a b c, lt a b = true → lt b c = true → lt a c = true
  tot : ∀ a b, a ≠ b → lt a b = true ∨ lt b a = true
theorem wu.rH(O:wu lt)(a b:α)(h:lt a b=true):lt b a=false:=by
 rw[Bool.eq_false_iff];intro h2;have:=O.trans a b a h h2;rw[O.irr] at this;cases this
variable [DecidableEq α]
theorem wu.uniq(O:wu lt)(a b:α)(h:lt a b=false)(h2:lt b a=false):a=b:=by
 by_cases e:a=b;·exact e
 ·rcases O.tot a b e with h3|h3;·rw[h] at h3;cases h3
  ·rw[h2] at h3;cases h3
theorem wu.rR(O:wu lt):l9 lt:=⟨O.irr,O.rH,fun a b c h1 h2=>by by_cases e:a=b;(·rw[e];exact h2);·by_cases e2:b=c;(·rw[←e2];exact h1);·rcases O.tot a b e with h3|h3;(·rcases O.tot b c e2 with h4|h4;(·exact O.rH _ _ (O.trans a b c h3 h4));·rw[h2] at h4;cases h4);·rw[h1] at h3;cases h3⟩
theorem wG (O : wu lt) : wu (gY lt) := by
  refine ⟨fun a => ?_, fun a => ?_, fun a => ?_⟩
  · induction a with
    | nil => rfl
    | cons a p ih => rw [gY, if_pos rfl]; exact ih
  · induction a with
    | nil =>
      intro b c h1 h2
      cases b with
      | nil => cases c with
        | nil => exact h1
        | cons c r => rfl
      | cons b q => cases c with
        | nil => cases h2
        | cons c r => rfl
    | cons a p ih =>
      intro b c h1 h2
      cases b with
      | nil => cases h1
      | cons b q => cases c with
        | nil => cases h2
        | cons c r =>
          rw [gY] at h1 h2 ⊢
          by_cases e1 : a = b
          · rw [if_pos e1] at h1
            by_cases e2 : b = c
            · rw [if_pos e2] at h2; rw [if_pos (e1.trans e2)]; exact ih q r h1 h2
            · rw [if_neg e2] at h2; rw [if_neg (by rw [e1]; exact e2), e1]; exact h2
          · rw [if_neg e1] at h1
            by_cases e2 : b = c
            · rw [if_neg (by rw [← e2]; exact e1), ← e2]; exact h1
            · rw [if_neg e2] at h2
              have h3 := O.trans a b c h1 h2
              rw [if_neg (fun e => by rw [e, O.irr] at h3; cases h3)]; exact h3
  · induction a with
    | nil => intro b h; cases b with
      | nil => exact absurd rfl h
      | cons b q => exact .inl rfl
    | cons a p ih =>
      intro b h
      cases b with
      | nil => exact .inr rfl
      | cons b q =>
        rw [gY, gY]
        by_cases e1 : a = b
        · rw [if_pos e1, if_pos e1.symm]; exact ih q (fun e => h (by rw [e1, e]))
        · rw [if_neg e1, if_neg (fun e => e1 e.symm)]; exact O.tot a b e1
end
def wM(a b:UInt8):Bool:=decide (a.toNat<b.toNat)
def eC(a b:List UInt8):Bool:=gY wM a b
def ki(a b:GStep):Bool:=decide (a.at_<b.at_)||(decide (a.at_=b.at_)&&(a.name&& !b.name))
theorem tQ:wu ki:=by
 refine⟨fun a=>by simp[ki],fun a b c h1 h2=> ?_,fun a b h=> ?_⟩
 ·simp only[ki,Bool.or_eq_true,Bool.and_eq_true,decide_eq_true_eq,Bool.not_eq_true'] at*;rcases h1 with h1|⟨h1,h3,h4⟩
  ·rcases h2 with h2|⟨h2,h5,h6⟩;·exact .inl (by omega)
   ·exact .inl (by omega)
  ·rcases h2 with h2|⟨h2,h5,h6⟩;·exact .inl (by omega)
   ·rw[h4] at h5;cases h5
 ·simp only[ki,Bool.or_eq_true,Bool.and_eq_true,decide_eq_true_eq,Bool.not_eq_true'];obtain⟨i,n⟩:=a;obtain⟨j,m⟩:=b;simp only at*;by_cases e:i=j;·subst e;cases n<;>cases m<;>simp_all
  ·omega
theorem mb{a b:GStep}(h:a≠b):ki a b=(decide (a.at_<b.at_)||(decide (a.at_=b.at_)&&a.name)):=by
 obtain⟨i,n⟩:=a;obtain⟨j,m⟩:=b;unfold ki;simp only;by_cases e:i=j;·subst e;cases n<;>cases m<;>simp_all
 ·simp[e]
def dh(a b:List GStep):Bool:=gY ki a b
theorem eO:wu dh:=wG tQ
def ao(a b:ag):Bool:=if a.p=b.p then decide (a.kind<b.kind) else dh a.p b.p
theorem dj:wu ao:=by
 refine⟨fun a=>by simp[ao],fun a b c h1 h2=> ?_,fun a b h=> ?_⟩
 ·unfold ao at*;by_cases e1:a.p=b.p
  ·rw[if_pos e1] at h1;by_cases e2:b.p=c.p;·rw[if_pos e2] at h2;rw[if_pos (e1.trans e2)];simp only[decide_eq_true_eq] at*;omega
   ·rw[if_neg e2] at h2;rw[if_neg (by rw[e1];exact e2),e1];exact h2
  ·rw[if_neg e1] at h1;by_cases e2:b.p=c.p;·rw[if_neg (by rw[←e2];exact e1),←e2];exact h1
   ·rw[if_neg e2] at h2;have h3:=eO.trans _ _ _ h1 h2;rw[if_neg (fun e=>by rw[e,eO.irr] at h3;cases h3)];exact h3
 ·unfold ao;obtain⟨k,p⟩:=a;obtain⟨k',q⟩:=b;simp only;by_cases e:p=q;·subst e;rw[if_pos rfl,if_pos rfl];simp only[decide_eq_true_eq];have:k≠k':=fun e=>h (by rw[e]);omega
  ·rw[if_neg e,if_neg (fun e2=>e e2.symm)];exact eO.tot _ _ e
def ch(l:List ag):List ag:=aq ao [] l
theorem jJ{l m:List ag}(hp:m.Perm l)(hs:cB ao m):m=ch l:=by
 have h1:=bD ao l [];rw[List.nil_append] at h1;exact so dj.rR dj.uniq (hp.trans h1.symm) hs (ib dj.rR l [] cB.nil)
theorem mV{l m:List ag}(hp:m.Perm l):ch m=ch l:=by
 refine jJ ?_ (ib dj.rR m [] cB.nil);have h1:=bD ao m [];rw[List.nil_append] at h1;exact h1.trans hp
theorem oE(l:List ag):(ch l).length=l.length:=by
 have h1:=bD ao l [];rw[List.nil_append] at h1;exact h1.length_eq
end
def dz(v:aa)(s:GStep):Int:=if v.kind=10 then(if s.name then 2*s.at_ else 2*s.at_+1) else s.at_
def bA(v:aa)(s:GStep):Int:=if 0≤s.at_∧(v.kind=10∨s.name=false)∧dz v s<v.l.length then dz v s else-1
theorem pI{v:aa}{s:GStep}(h:0≤s.at_):s.at_≤dz v s:=by
 unfold dz;split;·split<;>omega
 ·omega
theorem eI(v:aa)(s:GStep):bA v s= -1∨ ∃i:Nat,bA v s=i∧i<v.l.length:=by
 by_cases h:0≤s.at_∧(v.kind=10∨s.name=false)∧dz v s<v.l.length;·obtain⟨h1,h2,h3⟩:=h;have:=pI (v:=v) h1;refine .inr ⟨(dz v s).toNat,?_,by omega⟩;unfold bA;rw[if_pos ⟨h1,h2,h3⟩];omega
 ·left;unfold bA;rw[if_neg h]
def stepG(v:aa)(s:GStep):Option aa:=v.l[(bA v s).toNat]?.bind fun x=>if bA v s= -1 then none else some x
theorem fL{v:aa}{s:GStep}(h:bA v s= -1):stepG v s=none:=by
 unfold stepG;rw[h];cases v.l[(-1:Int).toNat]? <;>simp
theorem cR{v:aa}{s:GStep}{i:Nat}(h:bA v s=i)(hi:i<v.l.length):stepG v s=some v.l[i]:=by
 unfold stepG;rw[h];have: ¬((i:Int)= -1):=by omega
 simp[hi,this]
def iC(v:aa):List GStep→Option aa|[]=>some v|s::p=>(stepG v s).bind fun x=>iC x p
theorem nP(s:GStep): ∀(p:List GStep)(v:aa),iC v (p++[s])=(iC v p).bind fun x=>stepG x s|[],v=>by simp[iC]|t::p,v=>by simp only[List.cons_append,iC];cases stepG v t with|none=>rfl|some x=>simp[nP s p x]
theorem jO: ∀(p q:List GStep)(v:aa),iC v p=none→iC v (p++q)=none|[],q,v,h=>by simp[iC] at h|t::p,q,v,h=>by simp only[List.cons_append,iC] at h ⊢;cases hs:stepG v t with|none=>rfl|some x=>rw[hs] at h;simpa using jO p q x (by simpa using h)
def aO(v:aa)(i:Nat):GStep:=if v.kind=10 then⟨((i/2:Nat):Int),decide (i%2=0)⟩ else⟨i,false⟩
mutual
def pathsG (p : List GStep) : aa → List (List GStep)
  | ⟨k, n, x, s, l⟩ => p :: pathsL p ⟨k, n, x, s, []⟩ 0 l
def pathsL (p : List GStep) (v : aa) (i : Nat) : List aa → List (List GStep)
  | [] => []
  | a :: l => pathsG (p ++ [aO v i]) a ++ pathsL p v (i + 1) l
end
theorem qE{v v':aa}(h:v.kind=v'.kind)(i:Nat):aO v i=aO v' i:=by
 unfold aO;rw[h]
theorem mx{v v':aa}(h:v.kind=v'.kind)(p:List GStep): ∀(l:List aa)(i:Nat),pathsL p v i l=pathsL p v' i l|[],i=>by simp[pathsL]|a::l,i=>by simp only[pathsL];rw[qE h,mx h p l (i+1)]
theorem pT(p:List GStep)(v:aa):pathsG p v=p::pathsL p v 0 v.l:=by
 obtain⟨k,n,x,s,l⟩:=v;rw[pathsG];congr 1;exact mx (v:=⟨k,n,x,s,[]⟩) (v':=⟨k,n,x,s,l⟩) rfl p l 0
theorem mD(p:List GStep)(v:aa): ∀(l:List aa)(i:Nat)(a:aa),pathsL p v i (l++[a])=pathsL p v i l++pathsG (p++[aO v (i+l.length)]) a|[],i,a=>by simp[pathsL]|b::l,i,a=>by simp only[List.cons_append,pathsL,mD p v l (i+1) a,List.append_assoc,List.length_cons];rw[show i+1+l.length=i+(l.length+1) by omega]
def cz(p:List GStep)(v:aa)(k:Nat):List (List GStep):=p::pathsL p v 0 (v.l.take k)
theorem fB(p:List GStep)(v:aa):cz p v 0=[p]:=by
 simp[cz,pathsL]
theorem eD(p:List GStep)(v:aa){k:Nat}(h:k<v.l.length):cz p v (k+1)=cz p v k++pathsG (p++[aO v k]) v.l[k]:=by
 unfold cz;rw[List.take_succ_eq_append_getElem h,mD,List.length_take,Nat.min_eq_left (by omega),Nat.zero_add,List.cons_append]
theorem fZ(p:List GStep)(v:aa):cz p v v.l.length=pathsG p v:=by
 rw[cz,List.take_length,pT]
mutual
theorem pathsG_len : ∀ (v : aa) (p : List GStep), (pathsG p v).length ≤ 1 + bulkVal v
  | ⟨k, n, x, s, l⟩, p => by
    rw [pathsG, bulkVal, List.length_cons]
    have := pathsL_len l ⟨k, n, x, s, []⟩ p 0
    omega
theorem pathsL_len : ∀ (l : List aa) (v : aa) (p : List GStep) (i : Nat), (pathsL p v i l).length ≤ bulkVals l
  | [], v, p, i => by simp [pathsL]
  | a :: l, v, p, i => by
    rw [pathsL, bulkVals, List.length_append]
    have := pathsG_len a (p ++ [aO v i])
    have := pathsL_len l v p (i + 1)
    omega
end
theorem fm(p:List GStep)(v:aa)(k:Nat):(cz p v k).length≤1+bulkVal v:=by
 unfold cz;rw[List.length_cons];have h1:=pathsL_len (v.l.take k) v p 0;have h2:bulkVals (v.l.take k)≤bulkVals v.l:=by(have: ∀(l l':List aa),bulkVals (l++l')=bulkVals l+bulkVals l':=fun l l'=>by rw[aC,aC,aC];simp;omega);have:=this (v.l.take k) (v.l.drop k);rw[List.take_append_drop] at this;omega
 rw[av];omega
theorem ee(l l':List aa):bulkVals (l++l')=bulkVals l+bulkVals l':=by
 rw[aC,aC,aC];simp;omega
theorem oC(p:List GStep)(v:aa){k:Nat}(h:k<v.l.length):(cz p v k).length+bulkVal v.l[k]≤bulkVal v:=by
 unfold cz;rw[List.length_cons];have h1:=pathsL_len (v.l.take k) v p 0;have h2:=ee (v.l.take (k+1)) (v.l.drop (k+1));rw[List.take_append_drop,List.take_succ_eq_append_getElem h,ee] at h2;have h3:bulkVals [v.l[k]]=1+bulkVal v.l[k]:=by rw[aC];simp
 have h4:=av v;omega
theorem gi{v:aa}{i:Nat}(hi:i<v.l.length):bulkVal v.l[i]+1≤bulkVal v:=by
 have:=et bulkVal v.l hi;have:=av v;have:=aC v.l;omega
theorem fk(v:aa):v.l.length≤bulkVal v:=by
 rw[av,aC];omega
theorem vK{v x:aa}{s:GStep}(h:stepG v s=some x):bulkVal x≤bulkVal v:=by
 rcases eI v s with h1|⟨i,h1,h2⟩;·rw[fL h1] at h;cases h
 ·rw[cR h1 h2] at h;injection h with h;subst h;have:=gi h2;omega
theorem q8: ∀(p:List GStep){v x:aa},iC v p=some x→bulkVal x≤bulkVal v|[],v,x,h=>by simp[iC] at h;subst h;exact Nat.le_refl _|s::p,v,x,h=>by simp only[iC] at h;cases hs:stepG v s with|none=>rw[hs] at h;cases h|some y=>rw[hs] at h;exact Nat.le_trans (q8 p (by simpa using h)) (vK hs)
mutual
theorem pathsG_deep : ∀ (v : aa) (p q : List GStep), q ∈ pathsG p v → q.length ≤ p.length + bulkVal v
  | ⟨k, n, x, s, l⟩, p, q, h => by
    rw [pathsG] at h
    rw [bulkVal]
    rcases List.mem_cons.1 h with rfl | h
    · omega
    · have := pathsL_deep l ⟨k, n, x, s, []⟩ p 0 q h; omega
theorem pathsL_deep : ∀ (l : List aa) (v : aa) (p : List GStep) (i : Nat) (q : List GStep), q ∈ pathsL p v i l → q.length ≤ p.length + bulkVals l
  | [], v, p, i, q, h => by simp [pathsL] at h
  | a :: l, v, p, i, q, h => by
    rw [pathsL] at h
    rw [bulkVals]
    rcases List.mem_append.1 h with h | h
    · have := pathsG_deep a _ q h; simp at this; omega
    · have := pathsL_deep l v p (i + 1) q h; omega
end
theorem oW(v:aa){i:Nat}(hi:i<v.l.length):bA v (aO v i)=i:=by
 unfold bA dz aO;by_cases h:v.kind=10
 ·simp only[h,if_true,true_or,true_and];by_cases h2:i%2=0;·simp only[h2,decide_true,if_true];rw[if_pos (by omega)];omega
  ·simp only[h2,decide_false];rw[if_pos (by simp;omega)];simp;omega
 ·simp only[h,if_false,false_or];rw[if_pos (by simp;omega)]
theorem mh(p:List GStep)(v:aa): ∀(k:Nat)(hk:k≤v.l.length)(q:List GStep),q∈cz p v k→q=p∨ ∃i,∃hi:i<v.l.length,q∈pathsG (p++[aO v i]) v.l[i]|0,_,q,h=>by rw[fB] at h;exact .inl (by simpa using h)|k+1,hk,q,h=>by rw[eD p v (by omega)] at h;rcases List.mem_append.1 h with h|h;(·exact mh p v k (by omega) q h);·exact .inr ⟨k,by omega,h⟩
theorem vq(v:aa): ∀(p q:List GStep),q∈pathsG p v→ ∃r x,q=p++r∧iC v r=some x:=by
 refine aa.ind (p:=fun v=> ∀(p q:List GStep),q∈pathsG p v→ ∃r x,q=p++r∧iC v r=some x) (fun v IH p q h=> ?_) v;rw[←fZ] at h;rcases mh p v _ (Nat.le_refl _) q h with rfl|⟨i,hi,h⟩;·exact⟨[],v,by simp,rfl⟩
 ·obtain⟨r,x,hq,hr⟩:=IH i hi _ _ h;refine⟨aO v i::r,x,by rw[hq];simp,?_⟩;rw[iC,cR (oW v hi) hi];exact hr
section
mutual
def preG : aa → List aa
  | ⟨k, n, x, s, l⟩ => ⟨k, n, x, s, l⟩ :: preL l
def preL : List aa → List aa
  | [] => []
  | a :: l => preG a ++ preL l
end
theorem qm(v:aa):preG v=v::preL v.l:=by
 cases v;rw[preG]
theorem pP(a:aa): ∀(l:List aa),preL (l++[a])=preL l++preG a|[]=>by simp[preL]|b::l=>by simp[preL,pP a l]
mutual
theorem preG_len : ∀ (v : aa), (preG v).length ≤ 1 + bulkVal v
  | ⟨k, n, x, s, l⟩ => by rw [preG, bulkVal, List.length_cons]; have := preL_len l; omega
theorem preL_len : ∀ (l : List aa), (preL l).length ≤ bulkVals l
  | [] => by simp [preL]
  | a :: l => by rw [preL, bulkVals, List.length_append]; have := preG_len a; have := preL_len l; omega
end
section
variable {σ : Type} (st : σ → aa → σ × Bool)
mutual
def evG : aa → σ → σ × Bool
  | ⟨k, n, x, t, l⟩, s => match st s ⟨k, n, x, t, l⟩ with
    | (s1, true) => evL l s1
    | (s1, false) => (s1, false)
def evL : List aa → σ → σ × Bool
  | [], s => (s, true)
  | a :: l, s => match evG a s with
    | (s1, true) => evL l s1
    | (s1, false) => (s1, false)
end
theorem sy{v:aa}{s s1:σ}(h:st s v=(s1,true)):evG st v s=evL st v.l s1:=by
 cases v;rw[evG,h]
theorem pE{v:aa}{s s1:σ}(h:st s v=(s1,false)):evG st v s=(s1,false):=by
 cases v;rw[evG,h]
theorem ke : ∀ (l l' : List aa) (s : σ), evL st (l ++ l') s = match evL st l s with
    | (s1, true) => evL st l' s1
    | (s1, false) => (s1, false)
  | [], l', s => by simp [evL]
  | a :: l, l', s => by
    rw [List.cons_append, evL, evL]
    rcases evG st a s with ⟨s1, b⟩
    cases b
    · rfl
    · exact ke l l' s1
theorem pr{l:List aa}{a:aa}{s s1 s2:σ}(h:evL st l s=(s1,true))(h2:evG st a s1=(s2,true)):evL st (l++[a]) s=(s2,true):=by
 rw[ke,h];simp only;rw[evL,h2];simp[evL]
theorem xb{l:List aa}{k:Nat}{s s1 s2:σ}(hk:k<l.length)(h:evL st (l.take k) s=(s1,true))(h2:evG st l[k] s1=(s2,false)):evL st l s=(s2,false):=by
 have e:l=l.take k++(l[k]::l.drop (k+1)):=by rw[←List.drop_eq_getElem_cons hk,List.take_append_drop]
 rw[e,ke,h];simp only;rw[evL,h2]
theorem ka{B:σ→Nat}: ∀(l:List aa),(∀i(hi:i<l.length),∀s,B (evG st l[i] s).1≤B s+1+bulkVal l[i])→ ∀s,B (evL st l s).1≤B s+bulkVals l|[],_,s=>by simp[evL]|a::l,h,s=>by have h0:=h 0 (by simp) s;simp only[List.getElem_cons_zero] at h0;have h1:=ka (B:=B) l (fun i hi s=>h (i+1) (by simpa using hi) s);rw[evL,bulkVals];revert h0;rcases evG st a s with⟨s1,b⟩;intro h0;cases b;(·simp only at h0 ⊢;omega);·simp only at h0 ⊢;have:=h1 s1;omega
theorem xW{B:σ→Nat}(hb: ∀s x,B (st s x).1≤B s+1)(v:aa): ∀s,B (evG st v s).1≤B s+1+bulkVal v:=by
 refine aa.ind (p:=fun v=> ∀s,B (evG st v s).1≤B s+1+bulkVal v) (fun v IH s=> ?_) v;have h0:=hb s v;rcases hq:st s v with⟨s1,b⟩;rw[hq] at h0;simp only at h0;cases b;·rw[pE st hq];simp only;omega
 ·rw[sy st hq];have h1:=ka st (B:=B) v.l IH s1;rw[av];omega
theorem xR{B:σ→Nat}(hb: ∀s x,B (st s x).1≤B s+1)(l:List aa)(s:σ):B (evL st l s).1≤B s+bulkVals l:=ka st l (fun i hi s=>xW st hb l[i] s) s
theorem vz{l:List aa}{k:Nat}(hk:k<l.length):bulkVals (l.take k)+(1+bulkVal l[k])≤bulkVals l:=by
 have h2:=ee (l.take (k+1)) (l.drop (k+1));rw[List.take_append_drop,List.take_succ_eq_append_getElem hk,ee] at h2;have h3:bulkVals [l[k]]=1+bulkVal l[k]:=by rw[aC];simp
 omega
end
end
def eU(n:Int):Nat:=Lib.nDigits n.natAbs
theorem qq: ∀k u,Lib.nDigits u≤k+1↔u<10^(k+1)|0,u=>by by_cases h:u<10;(·rw[Lib.nDigits_small h];simp;omega);·rw[Lib.nDigits_big h];(have h2:0<Lib.nDigits (u/10):=by by_cases h3:u/10<10;(·rw[Lib.nDigits_small h3];omega);·rw[Lib.nDigits_big h3];omega);simp;omega|k+1,u=>by by_cases h:u<10;(·rw[Lib.nDigits_small h];(have:10≤10^(k+1+1):=by have:=Nat.pow_le_pow_right (show 0<10 by omega) (show 1≤k+1+1 by omega);simpa using this);omega);·rw[Lib.nDigits_big h,Nat.add_le_add_iff_right,qq k (u/10),Nat.pow_succ 10 (k+1)];omega
theorem jy(n:Int):eU n≤17↔ -100000000000000000<n∧n<100000000000000000:=by
 unfold eU;rw[qq 16];omega
theorem wC(n:Int):1≤eU n:=by
 unfold eU;by_cases h:n.natAbs<10;·rw[Lib.nDigits_small h];omega
 ·rw[Lib.nDigits_big h];omega
theorem x9{n:Int}(h:aT n):eU n≤19:=by
 obtain⟨h1,h2⟩:=h;unfold eU;rw[qq 18];omega
def nd(x:Int):Nat:=if x=0 then 0 else Lib.nDigits x.natAbs
theorem jZ(x:Int):(x.tdiv 10).natAbs=x.natAbs/10:=by
 rw[Int.natAbs_tdiv];rfl
theorem uB{x:Int}(h:x≠0):nd x=nd (x.tdiv 10)+1:=by
 have h1:=jZ x;unfold nd;rw[if_neg h];by_cases h2:x.natAbs<10;·rw[Lib.nDigits_small h2,if_pos (by omega)]
 ·rw[Lib.nDigits_big h2,if_neg (by omega),h1]
theorem xU(n:Int):eU n=1+nd (n.tdiv 10):=by
 by_cases h:n=0;·subst h;unfold eU nd;rw[Lib.nDigits_small (by decide)];rfl
 ·have h1:=uB h;have h2:nd n=eU n:=by unfold nd eU;rw[if_neg h]
  omega
def aV(n x:Int):Bool:=if x=0 then decide (-1000000000000000≤n∧n≤1000000000000000) else decide (-16≤x∧x≤ -1)&&decide (eU n≤17)&&decide (n.tmod 10≠0)
def bh(m e:Int):Bool:=if m=0 then decide (e=0) else decide (-65535≤m∧m≤65535)&&decide (m.tmod 2≠0)&&decide (-16≤e∧e≤45)&&(decide (e≤30)||decide (-65535≤m*2^(e-30).toNat∧m*2^(e-30).toNat≤65535))
def aI(m e:Int):Int×Int:=if 0≤e then(m*2^e.toNat,0) else(m*5^(-e).toNat,e)
def l6(a:Nat)(e:Int):Nat:=a*2^(-e).toNat
def fu(p:Nat)(e:Int):Nat:=p*2^e.toNat
def gm(a p:Nat)(e:Int):Nat:=l6 a e/fu p e
def wb(a p:Nat)(e:Int):Nat:=l6 a e%fu p e
def fO(a p:Nat)(e:Int):Prop:=gm a p e≤65535∧ ∀e',-16≤e'→e'<e→65535<gm a p e'
theorem nD(a p:Nat)(hp:0<p)(e:Int):gm a p (e+1)=gm a p e/2:=by
 unfold gm l6 fu;rcases Int.lt_or_le e 0 with h|h
 ·have h1:(-e).toNat=(-(e+1)).toNat+1:=by omega
  have h2:e.toNat=0:=by omega
  have h3:(e+1).toNat=0:=by omega
  rw[h1,h2,h3,Nat.pow_succ,Nat.pow_zero,Nat.mul_one,Nat.div_div_eq_div_mul,←Nat.mul_assoc];rw[Nat.mul_div_mul_right _ _ (by omega)]
 ·have h1:(-e).toNat=0:=by omega
  have h2:(-(e+1)).toNat=0:=by omega
  have h3:(e+1).toNat=e.toNat+1:=by omega
  rw[h1,h2,h3,Nat.pow_succ,Nat.pow_zero,Nat.mul_one,Nat.div_div_eq_div_mul,←Nat.mul_assoc]
def dT(a p:Nat)(e:Int):Nat:=if fu p e<2*wb a p e∨(2*wb a p e=fu p e∧gm a p e%2=1) then gm a p e+1 else gm a p e
def ef:Nat→Int→Int→Int×Int|0,m,e=>(m,e)|f+1,m,e=>if m.tmod 2=0 then ef f (m.tdiv 2) (e+1) else(m,e)
def bz(m e:Int):Option (Int×Int):=if m=0 then some (0,0) else if bh (ef 20 m e).1 (ef 20 m e).2 then some (ef 20 m e) else none
theorem gM{f:Nat}{m e:Int}(h:m.tmod 2=0):ef (f+1) m e=ef f (m.tdiv 2) (e+1):=by
 rw[ef,if_pos h]
theorem kW{m e:Int}(h:m.tmod 2≠0): ∀f,ef f m e=(m,e)|0=>rfl|f+1=>by rw[ef,if_neg h]
theorem lN(m:Int):(m.tdiv 2).natAbs=m.natAbs/2:=by
 rw[Int.natAbs_tdiv];rfl
theorem kx{m:Int}(h:m.tmod 2=0):m=2*m.tdiv 2:=by
 have:=Int.mul_tdiv_add_tmod m 2;omega
def je:Nat→Nat→Nat→Int→Option Int|0,_,_,_=>none|f+1,a,p,e=>if gm a p e≤65535 then some e else je f a p (e+1)
theorem kU{a p:Nat}{e:Int}(h:fO a p e): ∀(f:Nat)(e0:Int),-16≤e0→e0≤e→e<e0+f→je f a p e0=some e|0,e0,_,_,h3=>by omega|f+1,e0,h1,h2,h3=>by rw[je];by_cases he:e0=e;(·subst he;rw[if_pos h.1]);·rw[if_neg (by have:=h.2 e0 h1 (by omega);omega)];exact kU h f (e0+1) (by omega) (by omega) (by omega)
def lT(n:Int)(m:Nat):Int:=if n<0 then-(m:Int) else m
theorem kC(n:Int)(m:Nat):(lT n m).natAbs=m:=by
 unfold lT;split<;>omega
def uz(n:Int)(p:Nat)(e:Int):Option (Int×Int):=bz (lT n (dT n.natAbs p e)) e
def eL(n x:Int):Option (Int×Int):=match je 67 n.natAbs (10^(-x).toNat) (-16) with|some e=>uz n (10^(-x).toNat) e|none=>none
theorem sL{n x e:Int}(h:fO n.natAbs (10^(-x).toNat) e)(h0: -16≤e)(h1:e≤50):eL n x=uz n (10^(-x).toNat) e:=by
 unfold eL;rw[kU h 67 (-16) (by omega) h0 (by omega)]
theorem pB{a p:Nat}{e:Int}(h:gm a p e≤65535):dT a p e≤65536:=by
 unfold dT;split<;>omega
theorem vR(a p:Nat)(e:Int):gm a p e≤dT a p e:=by
 unfold dT;split<;>omega
theorem tz{a p:Nat}{e:Int}(hp:0<p)(h:fO a p e)(h0: -16<e):32768≤gm a p e:=by
 have h1:=h.2 (e-1) (by omega) (by omega);have h2:=nD a p hp (e-1);rw[show e-1+1=e by omega] at h2;omega
theorem pR: ∀(f:Nat)(m e:Int),∃j:Nat,(ef f m e).2=e+j∧m=(ef f m e).1*2^j|0,m,e=>⟨0,by simp[ef],by simp[ef]⟩|f+1,m,e=>by rw[ef];split;(·rename_i h;obtain⟨j,h1,h2⟩:=pR f (m.tdiv 2) (e+1);refine⟨j+1,by rw[h1];omega,?_⟩;have h3:=kx h;rw[Int.pow_succ,←Int.mul_assoc,←h2];omega);·exact⟨0,by simp,by simp⟩
theorem mF{m e:Int}(h0:32768≤m.natAbs)(he:31≤e):bz m e=none:=by
 unfold bz;rw[if_neg (by omega)];obtain⟨j,h1,h2⟩:=pR 20 m e;have h3:bh (ef 20 m e).1 (ef 20 m e).2=false:=by rw[Bool.eq_false_iff];intro h;unfold bh at h;generalize(ef 20 m e).1=m' at h h2;rw[h1] at h;split at h;(·rename_i h4;subst h4;simp at h2;omega);·simp only[Bool.and_eq_true,Bool.or_eq_true,decide_eq_true_eq] at h;obtain⟨_,h5⟩:=h;have h6:=h5.resolve_left (by omega);obtain⟨i,hi⟩: ∃i:Nat,(e+j-30).toNat=j+1+i:=⟨(e-31).toNat,by omega⟩;rw[hi,Int.pow_add,Int.pow_succ,←Int.mul_assoc,←Int.mul_assoc,←h2] at h6;(have h7:(m*2*2^i).natAbs=m.natAbs*2*2^i:=by rw[Int.natAbs_mul,Int.natAbs_mul,Int.natAbs_pow];rfl);have h8:0<2^i:=Nat.pow_pos (by omega);have h9:m.natAbs*2*1≤m.natAbs*2*2^i:=Nat.mul_le_mul_left _ h8;omega
 rw[h3];rfl
theorem p7: ∀(f:Nat)(m e:Int),m.natAbs<2^f→m≠0→ef (f+1) m e=ef f m e|0,m,e,h,h0=>by simp at h;omega|f+1,m,e,h,h0=>by by_cases hm:m.tmod 2=0;(·have h1:=lN m;have h2:=kx hm;rw[gM hm,gM hm];rw[Nat.pow_succ] at h;exact p7 f _ _ (by omega) (by omega));·rw[kW hm,kW hm]
theorem kQ{n e:Int}:bz (lT n 65536) e=bz (lT n 32768) (e+1):=by
 have h1:(lT n 65536).tmod 2=0:=by unfold lT;split<;>rfl
 have h2:(lT n 65536).tdiv 2=lT n 32768:=by unfold lT;split<;>rfl
 have h3:ef 20 (lT n 65536) e=ef 19 (lT n 32768) (e+1):=by rw[gM h1,h2]
 have h4:ef 19 (lT n 32768) (e+1)=ef 20 (lT n 32768) (e+1):=(p7 19 _ _ (by rw[kC];decide) (by unfold lT;split<;>omega)).symm;unfold bz;have n1:lT n 65536≠0:=fun e=>by have:=kC n 65536;rw[e] at this;simp at this
 have n2:lT n 32768≠0:=fun e=>by have:=kC n 32768;rw[e] at this;simp at this
 rw[if_neg n1,if_neg n2,h3,h4]
theorem Az(A p:Nat)(hp:0<p):(p≤2*(A%p)→2*A/p=2*(A/p)+1∧2*A%p=2*(A%p)-p)∧(¬p≤2*(A%p)→2*A/p=2*(A/p)∧2*A%p=2*(A%p)):=by
 have h1:=Nat.div_add_mod A p;have h2:=Nat.mod_lt A hp;generalize A/p=q at h1 ⊢;generalize A%p=r at h1 h2 ⊢;refine⟨fun h=> ?_,fun h=> ?_⟩
 ·have e:2*A=(2*r-p)+(2*q+1)*p:=by(have:(2*q+1)*p=2*(p*q)+p:=by rw[Nat.add_mul,Nat.mul_assoc,Nat.mul_comm q p];omega);omega
  rw[e,Nat.add_mul_div_right _ _ hp,Nat.add_mul_mod_self_right,Nat.div_eq_of_lt (by omega),Nat.mod_eq_of_lt (by omega)];omega
 ·have e:2*A=2*r+(2*q)*p:=by(have:(2*q)*p=2*(p*q):=by rw[Nat.mul_assoc,Nat.mul_comm q p]);omega
  rw[e,Nat.add_mul_div_right _ _ hp,Nat.add_mul_mod_self_right,Nat.div_eq_of_lt (by omega),Nat.mod_eq_of_lt (by omega)];omega
def ff(n:Int):Bool:=decide (0≤n∧n≤1114111)&& !decide (55296≤n∧n≤57343)
def eM(n:Int):Nat:=if ff n then(if n<128 then 1 else if n<2048 then 2 else if n<65536 then 3 else 4) else 0
def gp(l:List UInt8):Option (Nat×Nat):=if l=[]∨Lib.decodeL l=(65533,1) then none else some (Lib.decodeL l)
def bO(l:List UInt8)(i:Nat):Nat:=(l.getD i 0).toNat
def dX(l:List UInt8)(n0:Nat):Nat→Int|0=>n0|j+1=>64*dX l n0 j+bO l (j+1)-128
def fh(x:Nat):Option (Nat×Nat):=if x<128 then some (1,x) else if 192≤x∧x≤223 then some (2,x-192) else if 224≤x∧x≤239 then some (3,x-224) else if 240≤x∧x≤247 then some (4,x-240) else none
theorem fG(l:List UInt8)(i:Nat):bO l i<256:=(l.getD i 0).toNat_lt
theorem kL{l:List UInt8}(hl:0<l.length):gp l=if Lib.decodeN l.length (bO l 0) (bO l 1) (bO l 2) (bO l 3)=(65533,1) then none else some (Lib.decodeN l.length (bO l 0) (bO l 1) (bO l 2) (bO l 3)):=by
 have hne:l≠[]:=fun e=>by subst e;simp at hl
 unfold gp;rw[Lib.decodeL_N];simp only[hne,false_or];rfl
theorem oG{l:List UInt8}(hl:0<l.length)(h:fh (bO l 0)=none):gp l=none:=by
 rw[kL hl];have h0:=fG l 0;unfold fh at h;generalize bO l 0=x at*;have hx: ¬x<128∧x/32≠6∧x/16≠14∧x/8≠30:=by split at h;(·cases h);·split at h;(·cases h);·split at h;(·cases h);·split at h;(·cases h);·omega
 have e:Lib.decodeN l.length x (bO l 1) (bO l 2) (bO l 3)=(65533,1):=by unfold Lib.decodeN;rw[if_neg hx.1,if_neg (by omega),if_neg (by omega),if_neg (by omega)]
 rw[e,if_pos rfl]
theorem xy{l:List UInt8}(hl:0<l.length)(h:bO l 0<128):gp l=some (bO l 0,1):=by
 rw[kL hl];have e:Lib.decodeN l.length (bO l 0) (bO l 1) (bO l 2) (bO l 3)=(bO l 0,1):=by unfold Lib.decodeN;rw[if_pos h]
 rw[e,if_neg (by intro e;injection e with e1 e2;omega)]
theorem eu{x W n0:Nat}(h:fh x=some (W,n0))(hx:x<256):(W=1∧n0=x∧x<128)∨(W=2∧x/32=6∧n0=x%32)∨(W=3∧x/16=14∧n0=x%16)∨(W=4∧x/8=30∧n0=x%8):=by
 unfold fh at h;split at h;·injection h with h;injection h with h1 h2;omega
 ·split at h;·injection h with h;injection h with h1 h2;omega
  ·split at h;·injection h with h;injection h with h1 h2;omega
   ·split at h;·injection h with h;injection h with h1 h2;omega
    ·cases h
theorem j8{l:List UInt8}{W n0:Nat}(hl:0<l.length)(h:fh (bO l 0)=some (W,n0))(hs:l.length<W):gp l=none:=by
 have hb:=fG l 0;rw[kL hl];have e:Lib.decodeN l.length (bO l 0) (bO l 1) (bO l 2) (bO l 3)=(65533,1)→(if Lib.decodeN l.length (bO l 0) (bO l 1) (bO l 2) (bO l 3)=(65533,1) then none else some (Lib.decodeN l.length (bO l 0) (bO l 1) (bO l 2) (bO l 3)))=none:=fun e=>by rw[if_pos e]
 refine e ?_;unfold Lib.decodeN;rcases eu h hb with⟨h1,h2,h3⟩|⟨h1,h2,h3⟩|⟨h1,h2,h3⟩|⟨h1,h2,h3⟩;·omega
 all_goals rw[if_neg (by omega),if_neg (by omega),if_neg (by omega),if_neg (by omega)]
def dm(y:Nat):Prop:=128≤y∧y≤191
instance (y : Nat) : Decidable (dm y) := by unfold dm; infer_instance
theorem om{l:List UInt8}{W n0 j:Nat}(hl:0<l.length)(h:fh (bO l 0)=some (W,n0))(hj:1≤j)(hjW:j<W)(hb: ¬dm (bO l j)):gp l=none:=by
 have h0:=fG l 0;rw[kL hl];unfold dm at hb;have e:Lib.decodeN l.length (bO l 0) (bO l 1) (bO l 2) (bO l 3)=(65533,1)→(if Lib.decodeN l.length (bO l 0) (bO l 1) (bO l 2) (bO l 3)=(65533,1) then none else some (Lib.decodeN l.length (bO l 0) (bO l 1) (bO l 2) (bO l 3)))=none:=fun e=>by rw[if_pos e]
 refine e ?_;unfold Lib.decodeN;have hj3:j=1∨j=2∨j=3:=by rcases eu h h0 with⟨h1,h2,h3⟩|⟨h1,h2,h3⟩|⟨h1,h2,h3⟩|⟨h1,h2,h3⟩<;>omega
 have k1:=fG l 1;have k2:=fG l 2;have k3:=fG l 3;have hbb:(j=1∧bO l 1/64≠2)∨(j=2∧bO l 2/64≠2)∨(j=3∧bO l 3/64≠2):=by rcases hj3 with rfl|rfl|rfl;(·left;exact⟨rfl,by omega⟩);(·right;left;exact⟨rfl,by omega⟩);·right;right;exact⟨rfl,by omega⟩
 rcases eu h h0 with⟨h1,h2,h3⟩|⟨h1,h2,h3⟩|⟨h1,h2,h3⟩|⟨h1,h2,h3⟩;·omega
 all_goals rw[if_neg (by omega),if_neg (by omega),if_neg (by omega),if_neg (by omega)]
theorem xv{l:List UInt8}{n0 j:Nat}(hc: ∀i,1≤i→i≤j→dm (bO l i)): ∃m:Nat,dX l n0 j=m∧m<(n0+1)*64^j:=by
 induction j with|zero=>exact⟨n0,rfl,by simp⟩|succ j ih=>obtain⟨m,h1,h2⟩:=ih (fun i hi hi2=>hc i hi (by omega));obtain⟨c1,c2⟩:=hc (j+1) (by omega) (by omega);refine⟨64*m+(bO l (j+1)-128),?_,?_⟩;(·rw[dX,h1];omega);·rw[Nat.pow_succ,←Nat.mul_assoc];generalize(n0+1)*64^j=z at h2;omega
theorem ez(n:Int):ff n=true↔0≤n∧n≤1114111∧(n<55296∨57343<n):=by
 unfold ff;simp only[Bool.and_eq_true,decide_eq_true_eq,Bool.not_eq_true',decide_eq_false_iff_not];omega
theorem fi(n:Int):(eM n=0∧ff n=false)∨(eM n=1∧0≤n∧n<128)∨(eM n=2∧128≤n∧n<2048)∨(eM n=3∧2048≤n∧n<65536∧(n<55296∨57343<n))∨(eM n=4∧65536≤n∧n≤1114111):=by
 unfold eM;cases h:ff n;·left;simp
 ·have:=(ez n).1 h;simp only[if_true];split;·omega
  ·split;·omega
   ·split<;>omega
theorem gg{d:Nat×Nat}(h:d=(65533,1)):(if d=(65533,1) then none else some d)=none:=by
 rw[if_pos h]
theorem tX{d:Nat×Nat}{z W:Nat}(h:d=(z,W))(hW:W≠1):(if d=(65533,1) then none else some d)=some (z,W):=by
 rw[if_neg (by rw[h];intro e;injection e with e1 e2;exact hW e2),h]
theorem l8{l:List UInt8}{W n0:Nat}(hl:0<l.length)(h:fh (bO l 0)=some (W,n0))(hs:W≤l.length)(hc: ∀i,1≤i→i<W→dm (bO l i)):(eM (dX l n0 (W-1))=W→gp l=some ((dX l n0 (W-1)).toNat,W))∧(eM (dX l n0 (W-1))≠W→gp l=none):=by
 have h0:=fG l 0;have k1:=fG l 1;have k2:=fG l 2;have k3:=fG l 3;rw[kL hl];rcases eu h h0 with⟨rfl,rfl,h3⟩|⟨rfl,h2,rfl⟩|⟨rfl,h2,rfl⟩|⟨rfl,h2,rfl⟩
 ·have e:Lib.decodeN l.length (bO l 0) (bO l 1) (bO l 2) (bO l 3)=(bO l 0,1):=by unfold Lib.decodeN;rw[if_pos h3]
  rw[e];have e2:dX l (bO l 0) (1-1)=bO l 0:=rfl;rw[e2];refine⟨fun _=> ?_,fun hw=>absurd ?_ hw⟩;·rw[if_neg (by intro e;injection e with e1 e2;omega)];simp
  ·rcases fi (bO l 0:Int) with h|h|h|h|h;·have:=h.2;rw[Bool.eq_false_iff] at this;exact absurd ((ez _).2 (by omega)) this
   all_goals omega
 ·have c1:=hc 1 (by omega) (by omega);unfold dm at c1;have e2:dX l (bO l 0%32) (2-1)=((bO l 0%32*64+bO l 1%64:Nat):Int):=by show dX l _ 1=_;rw[dX,dX];simp only[Nat.zero_add,Nat.reduceAdd];omega
  rw[e2];generalize hz:bO l 0%32*64+bO l 1%64=z;have hz2:z<2048:=by omega
  have e:Lib.decodeN l.length (bO l 0) (bO l 1) (bO l 2) (bO l 3)=if z≥128 then(z,2) else(65533,1):=by unfold Lib.decodeN;rw[if_neg (by omega),if_pos (by omega),hz]
  rcases fi (z:Int) with h|h|h|h|h;·have:=h.2;rw[Bool.eq_false_iff] at this;exact absurd ((ez _).2 (by omega)) this
  ·rw[gg (e.trans (if_neg (by omega)))];exact⟨fun hw=>by omega,fun _=>rfl⟩
  ·rw[tX (e.trans (if_pos (by omega))) (by omega)];exact⟨fun _=>by simp,fun hw=>by omega⟩
  all_goals omega
 ·have c1:=hc 1 (by omega) (by omega);have c2:=hc 2 (by omega) (by omega);unfold dm at c1 c2;have e2:dX l (bO l 0%16) (3-1)=((bO l 0%16*4096+bO l 1%64*64+bO l 2%64:Nat):Int):=by show dX l _ 2=_;rw[dX,dX,dX];simp only[Nat.zero_add,Nat.reduceAdd];omega
  rw[e2];generalize hz:bO l 0%16*4096+bO l 1%64*64+bO l 2%64=z;have hz2:z<65536:=by omega
  have e:Lib.decodeN l.length (bO l 0) (bO l 1) (bO l 2) (bO l 3)=if z≥2048∧(z<55296∨(57344≤z∧z≤1114111)) then(z,3) else(65533,1):=by unfold Lib.decodeN;rw[if_neg (by omega),if_neg (by omega),if_pos (by omega),hz]
  rcases fi (z:Int) with h|h|h|h|h;·have:=h.2;rw[Bool.eq_false_iff,Ne,ez] at this;rw[gg (e.trans (if_neg (by omega)))];exact⟨fun hw=>by omega,fun _=>rfl⟩
  ·rw[gg (e.trans (if_neg (by omega)))];exact⟨fun hw=>by omega,fun _=>rfl⟩
  ·rw[gg (e.trans (if_neg (by omega)))];exact⟨fun hw=>by omega,fun _=>rfl⟩
  ·rw[tX (e.trans (if_pos (by omega))) (by omega)];exact⟨fun _=>by simp,fun hw=>by omega⟩
  ·omega
 ·have c1:=hc 1 (by omega) (by omega);have c2:=hc 2 (by omega) (by omega);have c3:=hc 3 (by omega) (by omega);unfold dm at c1 c2 c3;have e2:dX l (bO l 0%8) (4-1)=((bO l 0%8*262144+bO l 1%64*4096+bO l 2%64*64+bO l 3%64:Nat):Int):=by show dX l _ 3=_;rw[dX,dX,dX,dX];simp only[Nat.zero_add,Nat.reduceAdd];omega
  rw[e2];generalize hz:bO l 0%8*262144+bO l 1%64*4096+bO l 2%64*64+bO l 3%64=z;have e:Lib.decodeN l.length (bO l 0) (bO l 1) (bO l 2) (bO l 3)=if z≥65536∧(z<55296∨(57344≤z∧z≤1114111)) then(z,4) else(65533,1):=by unfold Lib.decodeN;rw[if_neg (by omega),if_neg (by omega),if_neg (by omega),if_pos (by omega),hz]
  rcases fi (z:Int) with h|h|h|h|h;·have:=h.2;rw[Bool.eq_false_iff,Ne,ez] at this;rw[gg (e.trans (if_neg (by omega)))];exact⟨fun hw=>by omega,fun _=>rfl⟩
  ·rw[gg (e.trans (if_neg (by omega)))];exact⟨fun hw=>by omega,fun _=>rfl⟩
  ·rw[gg (e.trans (if_neg (by omega)))];exact⟨fun hw=>by omega,fun _=>rfl⟩
  ·rw[gg (e.trans (if_neg (by omega)))];exact⟨fun hw=>by omega,fun _=>rfl⟩
  ·rw[tX (e.trans (if_pos (by omega))) (by omega)];exact⟨fun _=>by simp,fun hw=>by omega⟩
def cd(s:ByteArray):Bool:=Lib.validD s.data.toList
theorem sr{l:List UInt8}(hl:0<l.length):(gp l=none→Lib.validD l=false)∧(∀n w,gp l=some (n,w)→Lib.validD l=Lib.validD (l.drop w)∧1≤w∧w≤l.length):=by
 have hne:l≠[]:=fun e=>by subst e;simp at hl
 rw[Lib.validD_step l hne];have hw:1≤(Lib.decodeL l).2∧(Lib.decodeL l).2≤l.length:=by refine⟨Lib.decodeL_width l,?_⟩;rw[Lib.decodeL_N];rcases Lib.decodeN_shape l.length (l.getD 0 0).toNat (l.getD 1 0).toNat (l.getD 2 0).toNat (l.getD 3 0).toNat with⟨_,e⟩|⟨_,h,_,_,e⟩|⟨_,h,_,_,_,_,e⟩|⟨_,h,_,_,_,_,_,e⟩|e<;>rw[e]<;>simp only<;>omega
 unfold gp;simp only[hne,false_or];refine⟨fun h=> ?_,fun n w h=> ?_⟩
 ·split at h;·rename_i e;rw[e];rfl
  ·cases h
 ·split at h;·cases h
  ·rename_i e;injection h with h;rw[if_neg (fun h2=>e (Prod.ext h2.1 h2.2)),h];rw[h] at hw;simp only at hw;exact⟨rfl,hw.1,hw.2⟩
end Go.Proofs.YtodpdjehjllhdaaGreatDoor
