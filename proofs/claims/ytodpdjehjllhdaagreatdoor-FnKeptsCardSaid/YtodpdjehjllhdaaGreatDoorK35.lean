/- Part of a proof: contracts and plain laws. -/
import Derived.Test.YtodpdjehjllhdaaGreatDoorK34
set_option linter.unusedVariables false
set_option linter.unusedSimpArgs false
set_option maxRecDepth 100000
set_option maxHeartbeats 20000000
namespace Go.Proofs.YtodpdjehjllhdaaGreatDoor
open Go.RowKit
theorem ie{way:Int}{v:aa}{s:GStep}{r dst:List GStep}(hok:valOkP v=true)(h:aC way v (s::r)=some dst): ∃i,∃hi:i<v.l.length,bT v s=(i:Int)∧ ∃dst',aC way v.l[i] r=some dst'∧((v.kind=10∧ ∃m j:Nat,s.at_=m∧((aS way (ar (bH way v.l []))).findIdx? fun c=>decide ((c.at_:Int)=s.at_))=some j∧ ¬(s.name=true∧aV way=true∧r≠[])∧dst=⟨(j:Int),s.name⟩::dst'∧i=if s.name=true then 2*m else 2*m+1)∨(v.kind=11∧s=⟨0,false⟩∧i=0∧dst=if way=2 then s::dst' else dst')∨(v.kind=9∧s=⟨(i:Int),false⟩∧dst=s::dst')):=by
 obtain⟨ho,hl⟩:=aL hok;rw[aC] at h;cases hs:stepG v s with|none=>rw[hs] at h;simp at h|some y=>rw[hs] at h;simp only[Option.bind_some] at h;obtain⟨i,hi,hpl,rfl⟩:=kx hs;refine⟨i,hi,hpl,?_⟩;by_cases h10:v.kind=10;(·rw[if_pos h10] at h;obtain⟨ev,heven⟩:=dj ho h10;cases hf:(aS way (ar (bH way v.l []))).findIdx? fun c=>decide ((c.at_:Int)=s.at_) with|none=>rw[hf] at h;simp at h|some j=>rw[hf] at h;simp only[Option.bind_some] at h;obtain⟨m,hm,_⟩:=pC (q:=[]) hf heven;split at h;(·cases h);·rename_i hnt;cases hr:aC way v.l[i] r with|none=>rw[hr] at h;simp at h|some dst'=>rw[hr] at h;simp only[Option.map_some,Option.some.injEq] at h;exact⟨dst',rfl,.inl ⟨h10,m,j,hm,hf▸rfl,hnt,h.symm,lT h10 hm hpl⟩⟩);·rw[if_neg h10] at h;have hse:=mm h10 hpl;by_cases h11:v.kind=11;(·rw[if_pos h11] at h;obtain⟨a,ea,_⟩:=eS ho h11;(have hla:v.l=[a]:=by rw[ea]);(have hi0:i=0:=by rw[hla] at hi;simpa using hi);subst hi0;cases hr:aC way v.l[0] r with|none=>rw[hr] at h;simp at h|some dst'=>rw[hr] at h;simp only[Option.map_some,Option.some.injEq] at h;exact⟨dst',rfl,.inr (.inl ⟨h11,by rw[hse];rfl,rfl,h.symm⟩)⟩);·rw[if_neg h11] at h;by_cases h9:v.kind=9;(·cases hr:aC way v.l[i] r with|none=>rw[hr] at h;simp at h|some dst'=>rw[hr] at h;simp only[Option.map_some,Option.some.injEq] at h;exact⟨dst',rfl,.inr (.inr ⟨h9,hse,h.symm⟩)⟩);·have:=nO hok h9 h10 h11;rw[this] at hi;simp at hi
theorem rQ{way:Int}{v:aa}(hok:valOkP v=true)(h11:v.kind=11)(hw:way≠2)(q:List GStep):(⟨6,q⟩:ag)∈(projP way v q).2:=by
 obtain⟨a,ea,_⟩:=eS (aL hok).1 h11;have hla:v.l=[a]:=by rw[ea]
 rw[fO h11 a hla q,if_neg hw];simp
theorem uQ{way:Int}{v:aa}(hok:valOkP v=true){s:GStep}{r dst:List GStep}(h:aC way v (s::r)=some dst){i:Nat}(hi:i<v.l.length)(hpl:bT v s=(i:Int))(q:List GStep)(ht: ¬(v.kind=10∧s.name=true∧aV way=true)): ∀L∈(projP way v.l[i] (q++[s])).2,L∈(projP way v q).2:=by
 obtain⟨ho,hl⟩:=aL hok;obtain⟨i',hi',hpl',dst',hr,h3⟩:=ie hok h;have e:i'=i:=by rw[hpl] at hpl';omega
 subst e;intro L hLm;rcases h3 with⟨h10,m,j,hm,hf,hnt,hto,him⟩|⟨h11,hs0,hi0,hto⟩|⟨h9,hs,hto⟩
 ·obtain⟨ev,heven⟩:=dj ho h10;obtain⟨m',hm',hmc,hj,hcj,hkept,hlm⟩:=pC (q:=q) hf heven;have em:m'=m:=by omega
  subst em;have hcat:=fv way v.l q hmc (by omega) hlm;have hse:s=⟨(m':Int),s.name⟩:=lB hm rfl;rw[dK h10];refine List.mem_append.2 (.inl (gZ hkept ?_));cases hn:s.name with|false=>rw[hn] at him hse;simp only[Bool.false_eq_true,if_false] at him;subst him;have:=congrArg Prod.snd hcat.2.2;simp only at this;rw[this,←hse];exact List.mem_append.2 (.inr hLm)|true=>rw[hn] at him hse;simp only[if_true] at him;subst him;(have htx:aV way=false:=by cases h:aV way;(·rfl);·exact absurd ⟨h10,hn,h⟩ ht);obtain⟨e1,e2⟩:=fR hmc (by omega) hlm htx;rw[e2,←hse];exact List.mem_append.2 (.inl hLm)
 ·obtain⟨a,ea,_⟩:=eS ho h11;have hla:v.l=[a]:=by rw[ea]
  subst hi0;have hva:v.l[0]=a:=by simp[hla]
  rw[hva,hs0] at hLm;rw[fO h11 a hla q];split;·exact hLm
  ·exact List.mem_append.2 (.inl hLm)
 ·have hpe:cU way 9 v.l[i'] i' q=projP way v.l[i'] (q++[s]):=by unfold cU;rw[if_neg (by omega),hs];unfold gN;rw[if_neg (by omega)]
  have hat9:=dw way 9 q v.l 0 i' hi;rw[Nat.zero_add,hpe] at hat9;rw[fc h9];refine List.mem_flatMap.2 ⟨_,List.getElem_mem (by rw[cw];exact hi),?_⟩;rw[hat9];exact hLm
theorem wS{way:Int}{l:List aa}{n n':Int}{j:Nat}(h:((aS way (ar (bH way l []))).findIdx? fun c=>decide ((c.at_:Int)=n))=some j)(h':((aS way (ar (bH way l []))).findIdx? fun c=>decide ((c.at_:Int)=n'))=some j):n=n':=by
 obtain⟨hj,e,_⟩:=List.findIdx?_eq_some_iff_getElem.1 h;obtain⟨_,e',_⟩:=List.findIdx?_eq_some_iff_getElem.1 h';have e1:(((aS way (ar (bH way l [])))[j]).at_:Int)=n:=by simpa using e
 have e2:(((aS way (ar (bH way l [])))[j]).at_:Int)=n':=by simpa using e'
 rw[←e1,←e2]
theorem pV{way:Int}{v:aa}(hok:valOkP v=true){s:GStep}{r:List GStep}(h:aC way v (s::r)=some []):v.kind=11∧way≠2:=by
 obtain⟨i,hi,hpl,dst',hr,h3⟩:=ie hok h;rcases h3 with⟨h10,m,j,hm,hf,hnt,hto,him⟩|⟨h11,hs0,hi0,hto⟩|⟨h9,hs,hto⟩;·cases hto
 ·refine⟨h11,fun e=> ?_⟩;rw[if_pos e] at hto;cases hto
 ·cases hto
theorem vh (way : Int) (v : aa) : valOkP v = true → ∀ (q p p' dst : List GStep), aC way v p = some dst → aC way v p' = some dst → (∀ L ∈ (projP way v q).2, ¬ (q ++ p) <+: L.p) → (∀ L ∈ (projP way v q).2, ¬ (q ++ p') <+: L.p) → p = p' := by
  refine aa.ind (p := fun v => valOkP v = true → ∀ (q p p' dst : List GStep), aC way v p = some dst → aC way v p' = some dst → (∀ L ∈ (projP way v q).2, ¬ (q ++ p) <+: L.p) → (∀ L ∈ (projP way v q).2, ¬ (q ++ p') <+: L.p) → p = p') (fun v IH hok q p p' dst h h' hL hL' => ?_) v
  obtain ⟨ho, hl⟩ := aL hok
  cases p with
  | nil =>
    cases p' with
    | nil => rfl
    | cons s r =>
      simp only [aC, Option.some.injEq] at h
      subst h
      obtain ⟨h11, hw⟩ := pV hok h'
      exact absurd (by simp) (hL ⟨6, q⟩ (rQ hok h11 hw q))
  | cons s r =>
    cases p' with
    | nil =>
      simp only [aC, Option.some.injEq] at h'
      subst h'
      obtain ⟨h11, hw⟩ := pV hok h
      exact absurd (by simp) (hL' ⟨6, q⟩ (rQ hok h11 hw q))
    | cons s' r' =>
      have up := fun {i} (hi : i < v.l.length) hpl => uQ hok h hi hpl q
      have up' := fun {i} (hi : i < v.l.length) hpl => uQ hok h' hi hpl q
      obtain ⟨i, hi, hpl, to1, hr, h3⟩ := ie hok h
      obtain ⟨i', hi', hpl', to2, hr', h3'⟩ := ie hok h'
      have fin : s = s' → i = i' → to1 = to2 → ¬ (v.kind = 10 ∧ s.name = true ∧ aV way = true) → s :: r = s' :: r' := by
        rintro rfl rfl rfl hnt
        have := IH i hi (bE hl hi) (q ++ [s]) r r' to1 hr hr'
          (fun L hLm => by rw [List.append_assoc, List.singleton_append]; exact hL L (up hi hpl hnt L hLm))
          (fun L hLm => by rw [List.append_assoc, List.singleton_append]; exact hL' L (up' hi hpl' hnt L hLm))
        rw [this]
      rcases h3 with ⟨h10, m, j, hm, hf, hnt, hto, him⟩ | ⟨h11, hs0, hi0, hto⟩ | ⟨h9, hs, hto⟩
      · rcases h3' with ⟨_, m', j', hm', hf', hnt', hto', him'⟩ | ⟨h11, _⟩ | ⟨h9, _⟩
        · rw [hto] at hto'
          injection hto' with e1 e2
          injection e1 with e3 e4
          have ej : j = j' := by omega
          subst ej
          have es := wS hf hf'
          have ess : s = s' := lB es e4
          subst ess
          have em : m = m' := by omega
          subst em
          by_cases hx : s.name = true ∧ aV way = true
          · have hr0 : r = [] := Decidable.byContradiction fun h => hnt ⟨hx.1, hx.2, h⟩
            have hr0' : r' = [] := Decidable.byContradiction fun h => hnt' ⟨hx.1, hx.2, h⟩
            rw [hr0, hr0']
          · exact fin rfl (by rw [him, him']) e2 (fun h => hx h.2)
        · omega
        · omega
      · rcases h3' with ⟨h10, _⟩ | ⟨_, hs0', hi0', hto'⟩ | ⟨h9, _⟩
        · omega
        · rw [hto] at hto'
          subst hs0 hs0' hi0 hi0'
          refine fin rfl rfl ?_ (fun h => by omega)
          split at hto'
          · injection hto'
          · exact hto'
        · omega
      · rcases h3' with ⟨h10, _⟩ | ⟨h11, _⟩ | ⟨_, hs', hto'⟩
        · omega
        · omega
        · rw [hto] at hto'
          injection hto' with e1 e2
          subst e1
          have ei : i = i' := by rw [hs] at hs'; injection hs' with e _; omega
          exact fin rfl ei e2 (fun h => by omega)
theorem oW{way:Int}{l:List aa}{q:List GStep}(h:aU q (bH way l q)=[]):ar (bH way l q)=bH way l q:=rj _ (il q h).1
theorem wE{way:Int}{v:aa}(h10:v.kind=10)(he:v.l.length%2=0)(h:(projP way v []).2=[]){m:Nat}(hm:2*m+1<v.l.length):((aS way (ar (bH way v.l []))).findIdx? fun c=>decide ((c.at_:Int)=(m:Int)))=some m:=by
 rw[dK h10] at h;unfold eB at h;obtain⟨h1,h2⟩:=List.append_eq_nil_iff.1 h;have hk:ar (bH way v.l [])=bH way v.l []:=oW h1;have hs:(aS way (ar (bH way v.l []))).map ah.at_=(ar (bH way v.l [])).map ah.at_:=Decidable.byContradiction fun hn=>by have h2':=h2;rw[if_neg (show ¬(aS way (ar (aO (projL way 10 v.l 0 []) 0))).map ah.at_=(ar (aO (projL way 10 v.l 0 []) 0)).map ah.at_ from hn)] at h2';cases h2'
 have hnd:((ar (bH way v.l [])).map ah.at_).Nodup:=(pE way v.l []).imp fun h=>Nat.ne_of_lt h;have e:=wW (dA way _) hnd hs;rw[e,hk];have hlen:m<(bH way v.l []).length:=by rw[bY];omega
 have hat: ∀i(hi:i<(bH way v.l []).length),((bH way v.l [])[i]).at_=i:=fun i hi=>by rw[bY] at hi;exact(fv way v.l [] (by rw[bY];exact hi) (by omega) (by omega)).1
 rw[List.findIdx?_eq_some_iff_getElem];refine⟨hlen,by rw[hat m hlen];simp,fun j hj=> ?_⟩;rw[hat j (by omega)];simp;omega
theorem pP(way:Int)(v:aa):valOkP v=true→(projP way v []).2=[]→ ∀(p:List GStep)(x:aa),yc v p=some x→aC way v p=some p:=by
 refine aa.ind (p:=fun v=>valOkP v=true→(projP way v []).2=[]→ ∀(p:List GStep)(x:aa),yc v p=some x→aC way v p=some p) (fun v IH hok hL p x hat=> ?_) v;obtain⟨ho,hl⟩:=aL hok;cases p with|nil=>rfl|cons s r=>rw[yc] at hat;rw[aC];cases hs:stepG v s with|none=>rw[hs] at hat;simp at hat|some y=>rw[hs] at hat;simp only[Option.bind_some] at hat ⊢;obtain⟨i,hi,hpl,rfl⟩:=kx hs;have hoki:=bE hl hi;by_cases h10:v.kind=10;(·rw[if_pos h10];obtain⟨ev,heven⟩:=dj ho h10;have hpr:=fF v s;(have hat0:0≤s.at_:=by by_cases hc:0≤s.at_;(·exact hc);·unfold bT at hpl;rw[if_neg (fun h=>hc h.1)] at hpl;omega);obtain⟨m,hm⟩: ∃m:Nat,s.at_=m:=⟨s.at_.toNat,by omega⟩;have him:=lT h10 hm hpl;(have hm2:2*m+1<v.l.length:=by cases hn:s.name<;>rw[hn] at him<;>simp at him<;>omega);rw[hm,wE h10 heven hL hm2];simp only[Option.bind_some];have hse:s=⟨(m:Int),s.name⟩:=lB hm rfl;(have hmc:m<(bH way v.l []).length:=by rw[bY];omega);have hcat:=fv way v.l [] hmc (by omega) hm2;(have hnil: ∀c∈bH way v.l [],c.nl=[]∧c.vl=[]:=by have hL':=hL;rw[dK h10] at hL';unfold eB at hL';exact(il [] (List.append_eq_nil_iff.1 hL').1).2);have hc:=hnil _ (List.getElem_mem hmc);(have key: ∀(h:(projP way v.l[i] []).2=[]),(if s.name=true∧aV way=true∧r≠[] then none else(aC way v.l[i] r).map (⟨(m:Int),s.name⟩:: ·))=if s.name=true∧aV way=true∧r≠[] then none else some (s::r):=fun h=>by rw[IH i hi hoki h r x hat,←hse];rfl);cases hn:s.name with|false=>rw[hn] at him;simp only[Bool.false_eq_true,if_false] at him;subst him;(have h0:(projP way v.l[2*m+1] []).2=[]:=by have:=congrArg Prod.snd hcat.2.2;simp only at this;rw[hc.2] at this;exact kP this.symm []);have:=key h0;rw[hn] at this;rw[this,if_neg (by simp)]|true=>rw[hn] at him;simp only[if_true] at him;subst him;cases htx:aV way with|true=>obtain⟨e1,e2⟩:=iV hmc (by omega) hm2 htx;rw[hc.1] at e2;(have hk7:v.l[2*m].kind=7:=Decidable.byContradiction fun h=>by rw[if_neg h] at e2;cases e2);(have hr0:r=[]:=by cases r with|nil=>rfl|cons t r'=>rw[yc] at hat;cases ht:stepG v.l[2*m] t with|none=>rw[ht] at hat;simp at hat|some z=>obtain⟨k,hk,_⟩:=kx ht;have:=nO hoki (by omega) (by omega) (by omega);rw[this] at hk;simp at hk);have:=key (by rw[vI hk7]);rw[hn,htx] at this;rw[this,if_neg (by rw[hr0];simp)]|false=>obtain⟨e1,e2⟩:=fR hmc (by omega) hm2 htx;rw[hc.1] at e2;have:=key (kP e2.symm []);rw[hn,htx] at this;rw[this,if_neg (by simp)]);·rw[if_neg h10];have hse:=mm h10 hpl;by_cases h11:v.kind=11;(·rw[if_pos h11];obtain⟨a,ea,_⟩:=eS ho h11;(have hla:v.l=[a]:=by rw[ea]);(have hi0:i=0:=by rw[hla] at hi;simpa using hi);subst hi0;(have hva:v.l[0]=a:=by simp[hla]);have hpt:=fO (way:=way) h11 a hla [];by_cases h2:way=2;(·rw[if_pos h2] at hpt;rw[hpt] at hL;rw[IH 0 hi hoki (by rw[hva];exact kP hL []) r x hat];simp[h2]);·rw[if_neg h2] at hpt;rw[hpt] at hL;simp at hL);·rw[if_neg h11];by_cases h9:v.kind=9;(·have hL':=hL;rw[fc h9] at hL';have h0:=flatMap_nil hL' _ (List.getElem_mem (by rw[cw];exact hi));rw[dw way 9 [] v.l 0 i hi] at h0;unfold cU at h0;rw[if_neg (by omega)] at h0;rw[IH i hi hoki (kP h0 []) r x hat];rfl);·have:=nO hok h9 h10 h11;rw[this] at hi;simp at hi
mutual
def countG : aa → Nat
  | ⟨_, _, _, _, l⟩ => 1 + countL l
def countL : List aa → Nat
  | [] => 0
  | a :: l => countG a + countL l
end
theorem vT(v:aa):countG v=1+countL v.l:=by
 cases v;rw[countG]
mutual
theorem paths_count : ∀ (v : aa) (p : List GStep), (pathsG p v).length = countG v
  | ⟨k, n, x, s, l⟩, p => by rw [pathsG, countG, List.length_cons, pathsL_count l]; omega
theorem pathsL_count : ∀ (l : List aa) (p : List GStep) (v : aa) (i : Nat), (pathsL p v i l).length = countL l
  | [], _, _, _ => by simp [pathsL, countL]
  | a :: l, p, v, i => by rw [pathsL, countL, List.length_append, paths_count a, pathsL_count l]
end
theorem rJ(v:aa):countG v≤1+bulkVal v:=by
 rw[←paths_count v []];exact pathsG_len v []
def du(way:Int)(v:aa):List (List GStep):=(pathsG [] v).filter fun p=>((if valOkP v=true∧1≤way∧way≤4 then aC way v p else none).isSome&& !oe (aJ way v).2 p)
theorem ua{l:List ag}{p:List GStep}(h:oe l p=false): ∀L∈l,¬p <+: L.p:=by
 intro L hL hp;unfold oe at h;rw[List.any_eq_false] at h;exact h L hL (List.isPrefixOf_iff_prefix.2 hp)
theorem xl{way:Int}{v:aa}(hok:valOkP v=true)(hw:1≤way∧way≤4)(h:(aJ way v).2=[]):du way v=pathsG [] v:=by
 unfold du;rw[List.filter_eq_self];intro p hp;obtain⟨x,hx⟩:=rU hp;have h0:(projP way v []).2=[]:=by unfold aJ at h;rw[if_pos ⟨hok,hw⟩] at h;have:=jl (projP way v []).2;rw[show bo (projP way v []).2=[] from h] at this;exact List.length_eq_zero_iff.1 this.symm
 rw[if_pos ⟨hok,hw⟩,pP way v hok h0 p x hx,h];rfl
theorem vk{way:Int}{v:aa}(h:(aJ way v).2≠[]):(du way v).length<countG v:=by
 rw[←paths_count v []];unfold du;refine List.length_filter_lt_length_iff_exists.2 ⟨[],by rw[qa];simp,?_⟩;have:oe (aJ way v).2 []=true:=by unfold oe;rcases hl:(aJ way v).2 with _|⟨L,l⟩;(·exact absurd hl h);·simp
 rw[this];simp
theorem sy(l:List ag)(p:List GStep):iZ l p=oe l p:=by
 unfold iZ oe;congr 1;funext x;unfold dO;rw[Bool.eq_iff_iff,List.isPrefixOf_iff_prefix,List.prefix_iff_eq_take];simp only[Bool.and_eq_true,decide_eq_true_eq];constructor;·exact fun h=>h.2.symm
 ·intro h;have:=congrArg List.length h;rw[List.length_take] at this;exact⟨by omega,h.symm⟩
def fK(way:Int)(v:aa)(p:List GStep):Bool:=(jT way v p).isSome&& !iZ (aJ way v).2 p
theorem lh(way:Int)(v:aa):du way v=(pathsG [] v).filter (fK way v):=by
 unfold du fK jT;congr 1;funext p;rw[sy]
theorem qM(way:Int)(v:aa)(A:Option Addr)(c:Nat)(w:World)(hv:ft v)(hx:SA w v.l A c):Calls Tryz.prog 33 #[.int .i64 way,.agg #[.int .i64 v.kind,.int .i64 v.n,.int .i64 v.x,.string v.s,.slice A v.l.length c]] w (xn w (du way v)):=by
 have hkg:=lh way v;have hlen:=pathsG_len v [];have hfk: ∀p,fK way v p=((jT way v p).isSome&& !iZ (aJ way v).2 p):=fun p=>rfl;have hLo:=fun w0 h=>qX way v A c w0 hv h;have hAl:=fun w0 h=>eQ v A c w0 (by have:=hv.2.2.2.2;omega) h;obtain⟨R,hR⟩: ∃R,R=du way v:=⟨_,rfl⟩;obtain⟨all,hal⟩: ∃all,all=pathsG [] v:=⟨_,rfl⟩;obtain⟨LS,hLS⟩: ∃LS,LS=(aJ way v).2:=⟨_,rfl⟩;rw[←hR,←hal] at hkg;rw[←hal] at hAl hlen;rw[←hLS] at hfk hLo;rw[←hR];have hb4:=hv.2.2.2.2;have hla:all.length≤100000:=by omega
 have E:=Ad (Ac hx (Ac hv (Ac hkg (Ac hfk (Ac hLo hAl)))));clear hx hv hkg hfk hLo hAl hR hal hLS hlen hb4;have B0:=Ad (ab (ab (ae w) (.cells #[.int .i64 v.kind,.int .i64 v.n,.int .i64 v.x,.string v.s,.slice A v.l.length c] 27)) (.cells #[] 54));have P0:=Ad ((aj.new w 27 #[.int .i64 v.kind,.int .i64 v.n,.int .i64 v.x,.string v.s,.slice A v.l.length c]).alloc (.cells #[] 54));have O0:=Ad (show aA (α:=List GStep) _ (w.heap.size+1) 54 (.slice (some ⟨w.heap.size+1,0,none⟩) 0 0) [] (fun _=>False) by have:=aA.qE (α:=List GStep) (w.alloc (.cells #[.int .i64 v.kind,.int .i64 v.n,.int .i64 v.x,.string v.s,.slice A v.l.length c] 27)) 54 (w.heap.size+1) (by simp) (fun _=>False);simp only[World.size_alloc] at this;exact this);go_enter Tryz.func33,Tryz.ntmps33;go_wp2_with fail;refine(E.out.2.2.2.2.2 _ (E.out.1.below B0.out)).mono ?_;rintro e w1 ⟨A1,c1,rfl,hs1,hb1⟩;have P1:=Ad (P0.out.below hb1);have hz1:w.heap.size+2≤w1.heap.size:=by have:=hb1.size;simp at this;omega
 obtain⟨p0,p1,p2,p3,p4⟩:=P1.out.c5;have H1:=Ad (Ac hs1.sb (Ac (ai B0.out hb1) (O0.out.ak hb1 (fun b h=>h.elim))));clear hs1 hb1;go_wp2_with fail;refine(E.out.2.2.2.2.1 _ (E.out.1.below H1.out.2.1)).mono ?_;clear p0 p1 p2 p3 p4;rintro e w2 ⟨AL,cL,rfl,hs2,hb2⟩;have hz2:=hb2.size;have hS1:SS w2 (fun b=>w.heap.size+2≤b∧b<w2.heap.size) all A1 c1:=SS.ak H1.out.1 (fun b h=>hb2.block b h.2) (fun b h=>⟨by have:=h.1;simp at this;omega,by have:=h.2;omega⟩);have hS2:SS w2 (fun b=>w.heap.size+2≤b∧b<w2.heap.size) LS AL cL:=SS.ak hs2 (fun _ _=>rfl) (fun b h=>⟨by have:=h.1;omega,h.2⟩);have H2:=Ad (Ac hS1 (Ac hS2 (Ac (ai H1.out.2.1 hb2) (Ac (P1.out.below hb2) (H1.out.2.2.ak hb2 (fun b h=>h.elim))))));clear hS1 hS2 hs2 hb2;go_wp2_with fail;go_loopg[5,8] all.length (fun gk rv i wr=> ∃k:Nat,k≤all.length∧i=.int .i64 k∧gk=all.length-k∧aj wr w.heap.size 27 #[.int .i64 v.kind,.int .i64 v.n,.int .i64 v.x,.string v.s,.slice A v.l.length c]∧SS wr (fun b=>w.heap.size+2≤b∧b<w2.heap.size) all A1 c1∧SS wr (fun b=>w.heap.size+2≤b∧b<w2.heap.size) LS AL cL∧aA wr (w.heap.size+1) 54 rv ((all.take k).filter (fK way v)) (fun b=>w.heap.size+2≤b∧b<w2.heap.size)∧(∀g,rv.ownBlock=some g→g<w.heap.size+2∨w2.heap.size≤g)∧Below w.heap.size w wr∧w2.heap.size≤wr.heap.size);case atStart=>exact⟨0,by omega,rfl,by omega,H2.out.2.2.2.1,H2.out.1,H2.out.2.1,H2.out.2.2.2.2.mono (fun b h=>h.elim),fun g hg=>.inl (by simp[Value.ownBlock] at hg;omega),H2.out.2.2.1,Nat.le_refl _⟩
 case round=>
  obtain⟨k,hk,rfl,rfl,hP0,hsa,hsl,hown,hloc,hbel,hzw⟩:=hrel;have hz0:=hP0.lt;by_cases hlt:k<all.length
  ·obtain⟨b,off,Ap,cp,rfl,hb,hsp,k0⟩:=hsa.eD hlt;obtain⟨p0,p1,p2,p3,p4⟩:=hP0.c5;have hi1:(k:Int)<all.length:=by omega
   have hi2:(0:Int)≤k:=by omega
   obtain⟨q,hq⟩: ∃q,q=all[k]:=⟨_,rfl⟩;rw[←hq] at hsp k0;obtain⟨sb,hsb⟩: ∃sb,sb=(jT way v q).isSome:=⟨_,rfl⟩;have hWT:=fun w0 h1 h2=>(fA way v q A Ap c cp w0 E.out.2.1 h1 h2).mono fun e w' h=>(show ∃A3 m3 c3,e=.returned (.tuple #[.slice A3 m3 c3,.bool sb])∧Below w0.heap.size w0 w' from by obtain⟨A3,c3,rfl,_,hb⟩:=h;exact⟨A3,_,c3,by rw[hsb],hb⟩);have hbw:b<wr.heap.size:=by have:=hb.2;omega
   have hfk:=E.out.2.2.2.1 q;rw[←hsb] at hfk;have hfl:((all.take k).filter (fK way v)).length≤k:=Nat.le_trans (List.length_filter_le _ _) (by rw[List.length_take];omega);have hfs:=List.filter_append (p:=fK way v) (all.take k) [q];rw[hq,←List.take_succ_eq_append_getElem hlt,←hq] at hfs;have HH:=Ad (Ac hsa (Ac hsl (Ac hown (Ac hloc (Ac hbel (Ac hsp (Ac hP0 (Ac hfk (Ac hfl hfs)))))))));have HT:=Ad (Ac hWT (Ac (E.out.1.below hbel) (hsp.sa (fun b h=>by have:=h.2;omega))));clear hsa hsl hown hloc hbel hsp hP0 hfk hfl hfs hWT hsb hq;rename World=>wo;go_wp2_with fail;go_region_held3(fun u=>u.cell? ⟨w.heap.size,0,none⟩=some (.int .i64 v.kind)∧u.cell? ⟨w.heap.size,1,none⟩=some (.int .i64 v.n)∧u.cell? ⟨w.heap.size,2,none⟩=some (.int .i64 v.x)∧u.cell? ⟨w.heap.size,3,none⟩=some (.string v.s)∧u.cell? ⟨w.heap.size,4,none⟩=some (.slice A v.l.length c)∧u.cell? ⟨b,off+k,none⟩=some (.slice Ap q.length cp)) (go_keep) (first|(go_at_call 22;(refine(HT.out.1 _ (by first|exact HT.out.2.1|exact HT.out.2.1.drew) (by first|exact HT.out.2.2|exact HT.out.2.2.drew)).mono ?_;rintro e3 w3 ⟨A3,m3,c3,rfl,hb3⟩;have zc:=(show Below wo.heap.size wo w3 from(by first|exact hb3|exact ai (ae wo).drew hb3));obtain⟨q0,q1,q2,q3,q4⟩:=(HH.out.2.2.2.2.2.2.1.below zc).c5;have j0:=(zc.cell (p:=⟨b,_,none⟩) hbw).trans k0;have HZ:=Ad zc;clear hb3 zc)));have hz3:=HZ.out.size;clear p0 p1 p2 p3 p4 k0;cases sb
   ·have hfs:(all.take (k+1)).filter (fK way v)=(all.take k).filter (fK way v):=by rw[HH.out.2.2.2.2.2.2.2.2.2,List.filter_cons,HH.out.2.2.2.2.2.2.2.1];simp
    have HF:=Ad hfs.symm;clear hfs;go_wp2_with fail;go_roundg(all.length-(k+1));case measure=>omega
    case rel=>exact⟨k+1,by omega,by go_num,rfl,HH.out.2.2.2.2.2.2.1.below HZ.out,SS.ak HH.out.1 (fun b h=>HZ.out.block b (by omega)) (fun _ h=>h),SS.ak HH.out.2.1 (fun b h=>HZ.out.block b (by omega)) (fun _ h=>h),HF.out▸HH.out.2.2.1.ak HZ.out (fun b h=>by omega),HH.out.2.2.2.1,ai HH.out.2.2.2.2.1 HZ.out,by have:=HZ.out.size;omega⟩
   ·have hHu:=(qF LS q AL Ap cL cp w3 ((HH.out.2.1.sa (fun b h=>by have:=h.2;omega)).below HZ.out) (HT.out.2.2.below HZ.out)).mono fun _ _ h=>fV.ret h;obtain⟨hu,hhu⟩: ∃hu,hu=iZ LS q:=⟨_,rfl⟩;have hfk:=HH.out.2.2.2.2.2.2.2.1;rw[←hhu] at hHu hfk;have HK:=Ad hfk;clear hfk hhu;go_wp2_with fail;refine hHu.mono ?_;clear hHu;rintro e w4 ⟨rfl,hb4⟩;have zc:=ai HZ.out hb4;have hz4:=zc.size;have j1:=(zc.cell (p:=⟨b,_,none⟩) hbw).trans ((HZ.out.cell (p:=⟨b,_,none⟩) hbw).symm.trans j0);have H4:=Ad zc;clear hb4 zc q0 q1 q2 q3 q4;cases hu
    ·have hfs:(all.take (k+1)).filter (fK way v)=(all.take k).filter (fK way v)++[q]:=by rw[HH.out.2.2.2.2.2.2.2.2.2,List.filter_cons,HK.out];simp
     have HF:=Ad hfs;clear hfs;have hpx:=Ad (show SS w4 (fun b=>w.heap.size+2≤b∧b<w2.heap.size) q Ap cp from SS.ak HH.out.2.2.2.2.2.1 (fun b h=>H4.out.block b (by omega)) (fun _ h=>h));have hO4:=Ad (HH.out.2.2.1.ak H4.out (fun b h=>by omega));go_wp2_with(at_builtin;(refine av rfl _ _ 51 rfl (v:=u5) (u:=.slice (some ⟨w4.heap.size,0,none⟩) 1 1) (by rfl) (by rfl) (gf 51 _ (w.heap.size+1) 54 (.agg #[.slice none 0 0]) 24 Tryz.underlying51 iY rfl (by decide) u5 _ q [.slice Ap q.length cp] _ _ (fun b=>w.heap.size+2≤b∧b<w2.heap.size) (hO4.out.ak (ab (ae w4) _) (fun b h=>by omega)) (fun b h=>⟨by simp;omega,fun e=>by have:=HH.out.2.2.2.1 b e;omega⟩) (RS.ak (SS.rs hpx.out) (fun b h=>(ab (ae w4) _).block b (by omega)) (fun b h=>h)) (aF [_] rfl) (by have:=HH.out.2.2.2.2.2.2.2.2.1;omega) (by have:=HH.out.2.2.2.2.2.2.2.2.1;unfold maxLen;omega) (by simp;omega)) ?_;rintro r5 w5 ⟨ho5,hbl5,hlc5,hg5⟩;rw[←HF.out] at ho5;have HO5:=Ad (Ac ho5 (Ac hbl5 (Ac hlc5 hg5)));clear ho5 hbl5 hlc5 hg5));go_roundg(all.length-(k+1));case measure=>omega
     case rel=>
      have hgne: ∀b,w.heap.size+2≤b→b<w2.heap.size→u5.ownBlock≠some b:=fun b h1 h2 e=>by have:=HH.out.2.2.2.1 b e;omega
      have hkp: ∀b,w.heap.size+2≤b→b<w2.heap.size→w5.heap[b]? =wo.heap[b]? :=fun b h1 h2=>by rw[HO5.out.2.2.2.block b (by simp;omega) (fun e=>hgne b h1 h2 e.symm),(ab (ae w4) _).block b (by omega)];exact H4.out.block b (by omega)
      refine⟨k+1,by omega,by go_num,rfl,((HH.out.2.2.2.2.2.2.1.below H4.out).alloc _).aG HO5.out.2.1 (by omega),SS.ak HH.out.1 (fun b h=>hkp b h.1 h.2) (fun _ h=>h),SS.ak HH.out.2.1 (fun b h=>hkp b h.1 h.2) (fun _ h=>h),HO5.out.1,?_,?_,?_⟩
      ·intro g hg;rcases HO5.out.2.2.1 with h|h;·exact HH.out.2.2.2.1 g (h▸hg)
       ·rw[h] at hg;injection hg with hg;right;simp at hg;omega
      ·exact(ab (ai HH.out.2.2.2.2.1 H4.out) _).trans (HO5.out.2.1.mono (by omega))
      ·have:=HO5.out.2.1.size;simp at this;omega
    ·have hfs:(all.take (k+1)).filter (fK way v)=(all.take k).filter (fK way v):=by rw[HH.out.2.2.2.2.2.2.2.2.2,List.filter_cons,HK.out];simp
     have HF:=Ad hfs.symm;clear hfs;go_wp2_with fail;go_roundg(all.length-(k+1));case measure=>omega
     case rel=>exact⟨k+1,by omega,by go_num,rfl,HH.out.2.2.2.2.2.2.1.below H4.out,SS.ak HH.out.1 (fun b h=>H4.out.block b (by omega)) (fun _ h=>h),SS.ak HH.out.2.1 (fun b h=>H4.out.block b (by omega)) (fun _ h=>h),HF.out▸HH.out.2.2.1.ak H4.out (fun b h=>by omega),HH.out.2.2.2.1,ai HH.out.2.2.2.2.1 H4.out,by have:=H4.out.size;omega⟩
  ·have e:k=all.length:=by omega
   subst e;rw[List.take_length] at hown;obtain⟨Av,cv,rfl⟩:=hown.form;have HO:=Ad (Ac hown hbel);clear hown hbel hsa;go_wp2_with fail;go_ret;have hg:=HO.out.1.aq;have hss:=(HO.out.1.ss wr (fun b=>b<wr.heap.size) (fun b _=>rfl) (fun b h=>by rcases h with h|h;(·have:=hg b h;omega);·omega)).2;exact⟨Av,cv,by rw[E.out.2.2.1];rfl,by rw[E.out.2.2.1];exact hss.sa (fun _ h=>h),HO.out.2⟩
theorem kD(way:Int)(v:aa)(A:Option Addr)(c:Nat)(w:World)(ht:fk w)(hv:ft v)(hx:SA w v.l A c):Calls Tryz.prog 32 #[.int .i64 way,.agg #[.int .i64 v.kind,.int .i64 v.n,.int .i64 v.x,.string v.s,.slice A v.l.length c]] w (xn w (du way v)):=by
 have hkg:=lh way v;have hlen:=pathsG_len v [];have hfk: ∀p,fK way v p=((jT way v p).isSome&& !iZ (aJ way v).2 p):=fun p=>rfl;have HT0:=Ad ht;clear ht;have hLo:=fun w0 h0 h=>ku way v A c w0 h0 hv h;have hAl:=fun w0 h=>(eW v A c w0 (by have:=hv.2.2.2.2;omega) h).mono fun e w' h=>(show ∃A' c',e=.returned (.slice A' (pathsG [] v).length c')∧SB w0.heap.size w' (pathsG [] v) A' c'∧Below w0.heap.size w0 w' from by obtain⟨A',c',h1,h2,h3⟩:=h;exact⟨A',c',h1,SB.mono h2.sf.2.sb (by omega),h3⟩);obtain⟨R,hR⟩: ∃R,R=du way v:=⟨_,rfl⟩;obtain⟨all,hal⟩: ∃all,all=pathsG [] v:=⟨_,rfl⟩;obtain⟨LS,hLS⟩: ∃LS,LS=(aJ way v).2:=⟨_,rfl⟩;rw[←hR,←hal] at hkg;rw[←hal] at hAl hlen;rw[←hLS] at hfk hLo;rw[←hR];have hb4:=hv.2.2.2.2;have hla:all.length≤100000:=by omega
 have E:=Ad (Ac hx (Ac hv (Ac hkg (Ac hfk (Ac hLo hAl)))));clear hx hv hkg hfk hLo hAl hR hal hLS hlen hb4;have B0:=Ad (ab (ab (ae w) (.cells #[.int .i64 v.kind,.int .i64 v.n,.int .i64 v.x,.string v.s,.slice A v.l.length c] 27)) (.cells #[] 54));have P0:=Ad ((aj.new w 27 #[.int .i64 v.kind,.int .i64 v.n,.int .i64 v.x,.string v.s,.slice A v.l.length c]).alloc (.cells #[] 54));have O0:=Ad (show aA (α:=List GStep) _ (w.heap.size+1) 54 (.slice (some ⟨w.heap.size+1,0,none⟩) 0 0) [] (fun _=>False) by have:=aA.qE (α:=List GStep) (w.alloc (.cells #[.int .i64 v.kind,.int .i64 v.n,.int .i64 v.x,.string v.s,.slice A v.l.length c] 27)) 54 (w.heap.size+1) (by simp) (fun _=>False);simp only[World.size_alloc] at this;exact this);go_enter Tryz.func32,Tryz.ntmps32;go_wp2_with fail;refine(E.out.2.2.2.2.1 _ (HT0.out.below B0.out) (E.out.1.below B0.out)).mono ?_;rintro e w1 ⟨AL,cL,rfl,hs1,hb1⟩;have P1:=Ad (P0.out.below hb1);have hz1:w.heap.size+2≤w1.heap.size:=by have:=hb1.size;simp at this;omega
 obtain⟨p0,p1,p2,p3,p4⟩:=P1.out.c5;have H1:=Ad (Ac hs1 (Ac (ai B0.out hb1) (O0.out.ak hb1 (fun b h=>h.elim))));clear hs1 hb1;go_wp2_with fail;refine(E.out.2.2.2.2.2 _ (E.out.1.below H1.out.2.1)).mono ?_;clear p0 p1 p2 p3 p4;rintro e w2 ⟨A1,c1,rfl,hs2,hb2⟩;have hz2:=hb2.size;have hS1:SS w2 (fun b=>w.heap.size+2≤b∧b<w2.heap.size) all A1 c1:=SS.ak hs2 (fun _ _=>rfl) (fun b h=>⟨by have:=h.1;omega,h.2⟩);have hS2:SS w2 (fun b=>w.heap.size+2≤b∧b<w2.heap.size) LS AL cL:=SS.ak H1.out.1 (fun b h=>hb2.block b h.2) (fun b h=>⟨by have:=h.1;simp at this;omega,by have:=h.2;omega⟩);have H2:=Ad (Ac hS1 (Ac hS2 (Ac (ai H1.out.2.1 hb2) (Ac (P1.out.below hb2) (H1.out.2.2.ak hb2 (fun b h=>h.elim))))));clear hS1 hS2 hs2 hb2;go_wp2_with fail;go_loopg[5,18] all.length (fun gk rv i wr=> ∃k:Nat,k≤all.length∧i=.int .i64 k∧gk=all.length-k∧aj wr w.heap.size 27 #[.int .i64 v.kind,.int .i64 v.n,.int .i64 v.x,.string v.s,.slice A v.l.length c]∧SS wr (fun b=>w.heap.size+2≤b∧b<w2.heap.size) all A1 c1∧SS wr (fun b=>w.heap.size+2≤b∧b<w2.heap.size) LS AL cL∧aA wr (w.heap.size+1) 54 rv ((all.take k).filter (fK way v)) (fun b=>w.heap.size+2≤b∧b<w2.heap.size)∧(∀g,rv.ownBlock=some g→g<w.heap.size+2∨w2.heap.size≤g)∧Below w.heap.size w wr∧w2.heap.size≤wr.heap.size);case atStart=>exact⟨0,by omega,rfl,by omega,H2.out.2.2.2.1,H2.out.1,H2.out.2.1,H2.out.2.2.2.2.mono (fun b h=>h.elim),fun g hg=>.inl (by simp[Value.ownBlock] at hg;omega),H2.out.2.2.1,Nat.le_refl _⟩
 case round=>
  obtain⟨k,hk,rfl,rfl,hP0,hsa,hsl,hown,hloc,hbel,hzw⟩:=hrel;have hz0:=hP0.lt;by_cases hlt:k<all.length
  ·obtain⟨b,off,Ap,cp,rfl,hb,hsp,k0⟩:=hsa.eD hlt;obtain⟨p0,p1,p2,p3,p4⟩:=hP0.c5;have hi1:(k:Int)<all.length:=by omega
   have hi2:(0:Int)≤k:=by omega
   obtain⟨q,hq⟩: ∃q,q=all[k]:=⟨_,rfl⟩;rw[←hq] at hsp k0;obtain⟨sb,hsb⟩: ∃sb,sb=(jT way v q).isSome:=⟨_,rfl⟩;have hWT:=fun w0 h0 h1 h2=>(di way v q A Ap c cp w0 h0 E.out.2.1 h1 h2).mono fun e w' h=>(show ∃A3 m3 c3,e=.returned (.tuple #[.slice A3 m3 c3,.bool sb])∧Below w0.heap.size w0 w' from by obtain⟨A3,c3,rfl,_,hb⟩:=h;exact⟨A3,_,c3,by rw[hsb],hb⟩);have hbw:b<wr.heap.size:=by have:=hb.2;omega
   have hfk:=E.out.2.2.2.1 q;rw[←hsb] at hfk;have hfl:((all.take k).filter (fK way v)).length≤k:=Nat.le_trans (List.length_filter_le _ _) (by rw[List.length_take];omega);have hfs:=List.filter_append (p:=fK way v) (all.take k) [q];rw[hq,←List.take_succ_eq_append_getElem hlt,←hq] at hfs;have HH:=Ad (Ac hsa (Ac hsl (Ac hown (Ac hloc (Ac hbel (Ac hsp (Ac hP0 (Ac hfk (Ac hfl hfs)))))))));have HT:=Ad (Ac hWT (Ac (E.out.1.below hbel) (hsp.sa (fun b h=>by have:=h.2;omega))));clear hsa hsl hown hloc hbel hsp hP0 hfk hfl hfs hWT hsb hq;rename World=>wo;go_wp2_with fail;refine(HT.out.1 _ ((HT0.out.below HH.out.2.2.2.2.1).below (ab (ae wo) _)) (HT.out.2.1.below (ab (ae wo) _)) (HT.out.2.2.below (ab (ae wo) _))).mono ?_;rintro e3 w3 ⟨A3,m3,c3,rfl,hb3⟩;have zc:=ai (ab (ae wo) (.cells #[.slice Ap q.length cp] 54)) hb3;have hPq:=(aj.new wo 54 #[.slice Ap q.length cp]).below hb3;have j0:=hPq.c1;have hjz:=hPq.lt;have HZ:=Ad zc;have HPq:=Ad hPq;clear hb3 zc hPq;have hz3:=HZ.out.size;clear p0 p1 p2 p3 p4 k0;cases sb
   ·have hfs:(all.take (k+1)).filter (fK way v)=(all.take k).filter (fK way v):=by rw[HH.out.2.2.2.2.2.2.2.2.2,List.filter_cons,HH.out.2.2.2.2.2.2.2.1];simp
    have HF:=Ad hfs.symm;clear hfs;go_wp2_with fail;go_roundg(all.length-(k+1));case measure=>omega
    case rel=>exact⟨k+1,by omega,by go_num,rfl,HH.out.2.2.2.2.2.2.1.below HZ.out,SS.ak HH.out.1 (fun b h=>HZ.out.block b (by omega)) (fun _ h=>h),SS.ak HH.out.2.1 (fun b h=>HZ.out.block b (by omega)) (fun _ h=>h),HF.out▸HH.out.2.2.1.ak HZ.out (fun b h=>by omega),HH.out.2.2.2.1,ai HH.out.2.2.2.2.1 HZ.out,by have:=HZ.out.size;omega⟩
   ·have hHu:=qv LS q AL Ap cL cp w3 ((HH.out.2.1.sa (fun b h=>by have:=h.2;omega)).below HZ.out) (HT.out.2.2.below HZ.out);obtain⟨hu,hhu⟩: ∃hu,hu=iZ LS q:=⟨_,rfl⟩;have hfk:=HH.out.2.2.2.2.2.2.2.1;rw[←hhu] at hHu hfk;have HK:=Ad hfk;clear hfk hhu;go_wp2_with fail;refine hHu.mono ?_;clear hHu;rintro e w4 ⟨rfl,hb4⟩;have zc:=ai HZ.out hb4;have hz4:=zc.size;have j1:=(HPq.out.below hb4).c1;have H4:=Ad zc;clear hb4 zc j0;cases hu
    ·have hfs:(all.take (k+1)).filter (fK way v)=(all.take k).filter (fK way v)++[q]:=by rw[HH.out.2.2.2.2.2.2.2.2.2,List.filter_cons,HK.out];simp
     have HF:=Ad hfs;clear hfs;have hpx:=Ad (show SS w4 (fun b=>w.heap.size+2≤b∧b<w2.heap.size) q Ap cp from SS.ak HH.out.2.2.2.2.2.1 (fun b h=>H4.out.block b (by omega)) (fun _ h=>h));have hO4:=Ad (HH.out.2.2.1.ak H4.out (fun b h=>by omega));go_wp2_with(at_builtin;(refine av rfl _ _ 51 rfl (v:=u5) (u:=.slice (some ⟨w4.heap.size,0,none⟩) 1 1) (by rfl) (by rfl) (gf 51 _ (w.heap.size+1) 54 (.agg #[.slice none 0 0]) 24 Tryz.underlying51 iY rfl (by decide) u5 _ q [.slice Ap q.length cp] _ _ (fun b=>w.heap.size+2≤b∧b<w2.heap.size) (hO4.out.ak (ab (ae w4) _) (fun b h=>by omega)) (fun b h=>⟨by simp;omega,fun e=>by have:=HH.out.2.2.2.1 b e;omega⟩) (RS.ak (SS.rs hpx.out) (fun b h=>(ab (ae w4) _).block b (by omega)) (fun b h=>h)) (aF [_] rfl) (by have:=HH.out.2.2.2.2.2.2.2.2.1;omega) (by have:=HH.out.2.2.2.2.2.2.2.2.1;unfold maxLen;omega) (by simp;omega)) ?_;rintro r5 w5 ⟨ho5,hbl5,hlc5,hg5⟩;rw[←HF.out] at ho5;have HO5:=Ad (Ac ho5 (Ac hbl5 (Ac hlc5 hg5)));clear ho5 hbl5 hlc5 hg5));go_roundg(all.length-(k+1));case measure=>omega
     case rel=>
      have hgne: ∀b,w.heap.size+2≤b→b<w2.heap.size→u5.ownBlock≠some b:=fun b h1 h2 e=>by have:=HH.out.2.2.2.1 b e;omega
      have hkp: ∀b,w.heap.size+2≤b→b<w2.heap.size→w5.heap[b]? =wo.heap[b]? :=fun b h1 h2=>by rw[HO5.out.2.2.2.block b (by simp;omega) (fun e=>hgne b h1 h2 e.symm),(ab (ae w4) _).block b (by omega)];exact H4.out.block b (by omega)
      refine⟨k+1,by omega,by go_num,rfl,((HH.out.2.2.2.2.2.2.1.below H4.out).alloc _).aG HO5.out.2.1 (by omega),SS.ak HH.out.1 (fun b h=>hkp b h.1 h.2) (fun _ h=>h),SS.ak HH.out.2.1 (fun b h=>hkp b h.1 h.2) (fun _ h=>h),HO5.out.1,?_,?_,?_⟩
      ·intro g hg;rcases HO5.out.2.2.1 with h|h;·exact HH.out.2.2.2.1 g (h▸hg)
       ·rw[h] at hg;injection hg with hg;right;simp at hg;omega
      ·exact(ab (ai HH.out.2.2.2.2.1 H4.out) _).trans (HO5.out.2.1.mono (by omega))
      ·have:=HO5.out.2.1.size;simp at this;omega
    ·have hfs:(all.take (k+1)).filter (fK way v)=(all.take k).filter (fK way v):=by rw[HH.out.2.2.2.2.2.2.2.2.2,List.filter_cons,HK.out];simp
     have HF:=Ad hfs.symm;clear hfs;go_wp2_with fail;go_roundg(all.length-(k+1));case measure=>omega
     case rel=>exact⟨k+1,by omega,by go_num,rfl,HH.out.2.2.2.2.2.2.1.below H4.out,SS.ak HH.out.1 (fun b h=>H4.out.block b (by omega)) (fun _ h=>h),SS.ak HH.out.2.1 (fun b h=>H4.out.block b (by omega)) (fun _ h=>h),HF.out▸HH.out.2.2.1.ak H4.out (fun b h=>by omega),HH.out.2.2.2.1,ai HH.out.2.2.2.2.1 H4.out,by have:=H4.out.size;omega⟩
  ·have e:k=all.length:=by omega
   subst e;rw[List.take_length] at hown;obtain⟨Av,cv,rfl⟩:=hown.form;have HO:=Ad (Ac hown hbel);clear hown hbel hsa;go_wp2_with fail;go_ret;have hg:=HO.out.1.aq;have hss:=(HO.out.1.ss wr (fun b=>b<wr.heap.size) (fun b _=>rfl) (fun b h=>by rcases h with h|h;(·have:=hg b h;omega);·omega)).2;exact⟨Av,cv,by rw[E.out.2.2.1];rfl,by rw[E.out.2.2.1];exact hss.sa (fun _ h=>h),HO.out.2⟩
end Go.Proofs.YtodpdjehjllhdaaGreatDoor
