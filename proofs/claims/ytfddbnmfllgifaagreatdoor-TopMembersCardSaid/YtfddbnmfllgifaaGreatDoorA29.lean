/- Part of TopMembers. -/
import Derived.Test.YtfddbnmfllgifaaGreatDoorA20
import Derived.DeepKeys5
set_option linter.unusedVariables false
set_option linter.unusedSimpArgs false
set_option maxHeartbeats 64000000
namespace Go.Proofs.YtfddbnmfllgifaaGreatDoor
open Go.RowKit
namespace KM
structure Ky{α:Type}(P:Program)(kt:TypeId)(enc:α→Value)(G:α→Prop):Prop where
 inj:∀{a b},G a→G b→enc a=enc b→a=b
 check:∀(w:World) (em:Bool) {a},G a→(Instr.checkKey em 10000 kt (enc a)).run P w=.ok () w
 find:∀(w:World) {a},G a→∀es:List MapEntry,(∀e∈es,∃b,G b∧e.key=enc b)→
  ((Instr.findKey kt (enc a) es).run P w=.ok none w∧∀e∈es,e.key≠enc a)∨∃j e,(Instr.findKey kt (enc a) es).run P w=.ok (some (j,e.val)) w∧es[j]? =some e∧e.key=enc a
 stays:∀(w:World) {a},G a→(Instr.keyThatStays (enc a) (enc a)).run P w=.ok (enc a) w
theorem ky_int{P:Program}{kt:TypeId}(hk:P.underlying kt=some (.int .i64)):Ky P kt (fun a:Int=>.int .i64 a) (fun _=>True) where
 inj:=fun _ _ h=>by cases h;rfl
 check:=fun w em a _=>MapKept.run_checkKey (k:=.int .i64 a) hk (by simp[MapKept.IsKey]) _ 9999
 find:=fun w a _ es h=>by
  rcases MapKept.findNow_spec (d:=.int .i64) (k:=.int .i64 a) (by simp[MapKept.IsKey]) es 0 (fun x hx=>by obtain⟨b,_,e⟩:=h x hx;rw[e];simp[MapKept.IsKey])with⟨h1,h2⟩ | ⟨j,e,h1,h2,h3⟩
  · exact .inl ⟨MapKept.run_findKey hk h1,h2⟩
  · exact .inr ⟨j,e,MapKept.run_findKey hk (by rw[h1,Yl]),h2,h3⟩
 stays:=fun w a _=>MapKept.run_keyThatStays (d:=.int .i64) (by simp[MapKept.IsKey])
theorem RI{α:Type}{P:Program}{kt:TypeId}{enc:α→Value}{G:α→Prop}(K:WideMaps.KeyLaw P kt)(hi:∀{a b},G a→G b→enc a=enc b→a=b)(hg:∀a,G a→∃l,keyOf P kt (enc a)=some l):Ky P kt enc G where
 inj:=hi
 check:=fun w em a h=>by obtain⟨l,hl⟩:=hg a h;exact K.check w em hl
 find:=fun w a h es ae=>by
  obtain⟨l,hl⟩:=hg a h;exact K.find w hl es fun e he=>by obtain⟨b,hb,e2⟩:=ae e he;obtain⟨l2,af⟩:=hg b hb;exact⟨l2,by rw[e2];exact af⟩
 stays:=fun w a h=>by obtain⟨l,hl⟩:=hg a h;exact K.stays w hl
section
variable {α:Type}{enc:α→Value}{G:α→Prop}
def Es(enc:α→Value)(es:List MapEntry)(m:List (α×Value)):Prop:=(es.map fun e=>(e.key,e.val)).Perm (m.map fun p=>(enc p.1,p.2))
theorem Es.mem{es:List MapEntry}{m:List (α×Value)}(h:Es enc es m){e:MapEntry}(he:e∈es):∃p∈m,e.key=enc p.1∧e.val=p.2:=by
 have :=h.mem_iff.1 (Yo.2 ⟨e,he,rfl⟩);obtain⟨p,hp,e2⟩:=Yo.1 this;exact⟨p,hp,(Prod.mk.inj e2).1.symm,(Prod.mk.inj e2).2.symm⟩
theorem Es.mem'{es:List MapEntry}{m:List (α×Value)}(h:Es enc es m){p:α×Value}(hp:p∈m):∃e∈es,e.key=enc p.1∧e.val=p.2:=by
 have :=h.mem_iff.2 (Yo.2 ⟨p,hp,rfl⟩);obtain⟨e,he,e2⟩:=Yo.1 this;exact⟨e,he,(Prod.mk.inj e2).1,(Prod.mk.inj e2).2⟩
theorem Es.nodup{es:List MapEntry}{m:List (α×Value)}(h:Es enc es m)(hn:(es.map (·.key)).Nodup):(m.map (·.1)).Nodup:=by
 have h1:(es.map (·.key)).Perm ((m.map (·.1)).map enc):=by
  have :=h.map Prod.fst;simpa[List.map_map,Function.comp_def]using this
 have h2:=h1.nodup_iff.1 hn;unfold List.Nodup at h2 ⊢;rw[List.pairwise_map]at h2;exact h2.imp fun ae e=>ae (congrArg enc e)
theorem Es.take{l1 l2:List MapEntry}{e:MapEntry}{m:List (α×Value)}(h:Es enc (l1++e::l2) m):∃a m',e.key=enc a∧m.Perm ((a,e.val)::m')∧Es enc (l1++l2) m':=by
 obtain⟨⟨a,v⟩,hp,e1,e2⟩:=h.mem (e:=e) (by simp);obtain⟨m1,m2,rfl⟩:=List.append_of_mem hp;refine⟨a,m1++m2,e1,?_,?_⟩
 · rw[e2];exact List.perm_middle
 · unfold Es at h ⊢;rw[Yn,Yw,Yn,Yw]at h;have h2:=(List.perm_middle.symm.trans h).trans List.perm_middle;simp only[e1,e2]at h2;have h3:=h2.cons_inv;rw[Yn,Yn];exact h3
def At(enc:α→Value)(G:α→Prop)(w:World)(r:Nat)(m:List (α×Value)):Prop:=(∀p∈m,G p.1)∧∃es clock,w.heap[r]? =some (.map es clock)∧Es enc es.toList m∧MapKept.Stamped es clock
def vJ(w:World)(r:Nat)(es:Array MapEntry)(clock:Nat):World:={w with heap:=w.heap.setIfInBounds r (.map es clock)}
theorem uC{w:World}{r:Nat}{o:Obj}(hb:w.heap[r]? =some o)(es:Array MapEntry)(clock:Nat):(vJ w r es clock).heap[r]? =some (.map es clock):=(MapKept.heap_set hb).1
theorem nO(w:World)(r:Nat)(es:Array MapEntry)(clock:Nat):aG r w (vJ w r es clock):=
 ⟨rfl,rfl,rfl,by simp[vJ],fun k hk hn=>by show(w.heap.setIfInBounds r _)[k]? =_;rw[Array.getElem?_setIfInBounds_ne (Ne.symm hn)]⟩
variable {P:Program}{w w':World}{r:Nat}{m:List (α×Value)}{kt:TypeId}
theorem At.lt(h:At enc G w r m):r < w.heap.size:=by obtain⟨_,es,c,h1,_⟩:=h;exact(Yi.1 h1).1
theorem At.of_block(h:At enc G w r m)(hb:w'.heap[r]? =w.heap[r]?):At enc G w' r m:=by obtain⟨h0,es,c,h1,h2⟩:=h;exact⟨h0,es,c,hb.trans h1,h2⟩
theorem At.below(h:At enc G w r m)(hb:Below w.heap.size w w'):At enc G w' r m:=h.of_block (hb.block _ h.lt)
theorem At.only {B:Nat}(h:At enc G w r m)(hb:aG B w w')(ae:r≠B):At enc G w' r m:=h.of_block (hb.block _ h.lt ae)
theorem At.made(enc:α→Value)(G:α→Prop)(w:World):At enc G (w.alloc (.map #[] 0)) w.heap.size []:=⟨fun p hp=>(by cases hp), #[],0,(MapKept.heap_alloc w _).1,List.Perm.nil,MapKept.stamped_empty 0⟩
theorem At.nodup(h:At enc G w r m):(m.map (·.1)).Nodup:=by obtain⟨_,es,c,h1,h2,h3⟩:=h;exact h2.nodup h3.2.2
theorem At.perm{m':List (α×Value)}(h:At enc G w r m)(hp:m.Perm m'):At enc G w r m':=by
 obtain⟨h0,es,c,h1,h2,h3⟩:=h;exact⟨fun p hp'=>h0 p (hp.mem_iff.2 hp'),es,c,h1,h2.trans (hp.map _),h3⟩
theorem At.len(h:At enc G w r m):∃es clock,w.heap[r]? =some (.map es clock)∧es.size=m.length:=by
 obtain⟨_,es,c,h1,h2,h3⟩:=h;exact⟨es,c,h1,by have :=List.Perm.length_eq h2;simpa using this⟩
def Rng(enc:α→Value)(G:α→Prop)(w:World)(b i:Nat)(m left :List (α×Value)):Prop:=
 (∀p∈m,G p.1)∧∃es clock seen,w.heap[b]? =some (.map es clock)∧Es enc es.toList m∧MapKept.Stamped es clock∧w.heap[i]? =some (.mapIter (some b) clock seen clock)∧Es enc (leftOf es seen).toList left
variable {b i:Nat}{left :List (α×Value)}
theorem Rng.at'(h:Rng enc G w b i m left):At enc G w b m:=by obtain⟨h0,es,clock,seen,h1,h2,h3,_⟩:=h;exact⟨h0,es,clock,h1,h2,h3⟩
theorem Rng.lt(h:Rng enc G w b i m left):i < w.heap.size:=by obtain⟨_,es,clock,seen,h1,h2,h3,h4,_⟩:=h;exact(Yi.1 h4).1
theorem Rng.of_block(h:Rng enc G w b i m left)(hb:w'.heap[b]? =w.heap[b]?)(hr:w'.heap[i]? =w.heap[i]?):Rng enc G w' b i m left :=by
 obtain⟨h0,es,clock,seen,h1,h2,h3,h4,h5⟩:=h;exact⟨h0,es,clock,seen,hb.trans h1,h2,h3,hr.trans h4,h5⟩
theorem Rng.below(h:Rng enc G w b i m left)(hb:Below w.heap.size w w'):Rng enc G w' b i m left :=h.of_block (hb.block _ h.at'.lt) (hb.block _ h.lt)
theorem Rng.only {B:Nat}(h:Rng enc G w b i m left)(hb:aG B w w')(h1:b≠B)(h2:i≠B):Rng enc G w' b i m left :=h.of_block (hb.block _ h.at'.lt h1) (hb.block _ h.lt h2)
theorem LJ(mty et:TypeId)(h:At enc G w b m)(hm:P.underlying mty=some (.map kt et)):
 ∃o,(Instr.range mty (.map (some b))).run P w=.ok (.pointer (some ⟨w.heap.size,0,none⟩)) (w.alloc o)∧Rng enc G (w.alloc o) b w.heap.size m m:=by
 obtain⟨h0,es,clock,h1,h2,h3⟩:=h;have ae:b < w.heap.size:=(Yi.1 h1).1;refine⟨_,run_range_map w mty kt et b es clock hm h1,h0,es,clock, #[],(Below.heap_alloc w _ b ae).trans h1,h2,h3,heap_alloc_new w _,?_⟩;unfold leftOf;have :(es.filter fun e=> !(#[]:Array Nat).contains e.born)=es:=Array.filter_eq_self.2 (fun x hx=>by simp);rw[this];exact h2
theorem Rng.next(h:Rng enc G w b i m left)(ty:TypeId):
 (left =[]∧(Instr.next (.pointer (some ⟨i,0,none⟩)) false ty).run P w=.ok (.tuple #[.bool false]) w)∨
 ∃a v left' w',left.Perm ((a,v)::left')∧(Instr.next (.pointer (some ⟨i,0,none⟩)) false ty).run P w=.ok (.tuple #[.bool true,enc a,v]) w'∧Rng enc G w' b i m left'∧aG i w w'∧
  (Instr.entry (.pointer (some ⟨i,0,none⟩))).run P w'=.ok (.tuple #[enc a,v]) w':=by
 obtain⟨h0,es,clock,seen,h1,h2,h3,h4,h5⟩:=h;have af:i≠b:=fun e=>(by rw[e,h1]at h4;cases h4);rcases run_next_at (P:=P) w ty i b clock clock seen es clock h4 h1 h3.1 (Ya _)with⟨h0',hr⟩ | ⟨e,he,w1,hw1,hr⟩
 · refine .inl ⟨?_,hr⟩;have :(leftOf es seen).toList=[]:=(by rw[Array.eq_empty_of_size_eq_zero h0']);rw[this]at h5;exact Yz (by have :=List.Perm.length_eq h5;simpa using this.symm)
 · have ag:e∈es.toList:=by
    unfold leftOf at he;simp at he ⊢;exact he.1
   have ae:((leftOf es seen).toList.map (·.born)).Nodup:=by
    unfold leftOf;rw[Array.toList_filter];exact(List.filter_sublist.map _).nodup h3.2.1
   obtain⟨l1,l2,hl⟩:=List.append_of_mem he;rw[hl]at h5 ae;obtain⟨a,m',hk,hp,hf⟩:=h5.take;have e1:w1.heap=w.heap:=(by rcases hw1 with rfl | rfl<;>rfl);have e2:w1.os=w.os∧w1.tape=w.tape∧w1.output=w.output:=by rcases hw1 with rfl | rfl<;>exact⟨rfl,rfl,rfl⟩
   have hb':(ChangeMaps.setBlock w1 i (.mapIter (some b) clock (seen.push e.born) clock)).heap[b]? =some (.map es clock):=by
    show(w1.heap.setIfInBounds i _)[b]? =_;rw[Array.getElem?_setIfInBounds_ne af,e1,h1]
   have hr':(ChangeMaps.setBlock w1 i (.mapIter (some b) clock (seen.push e.born) clock)).heap[i]? =some (.mapIter (some b) clock (seen.push e.born) clock):=by
    have hl:i < w1.heap.size:=(by rw[e1];exact(Yi.1 h4).1);show(w1.heap.setIfInBounds i _)[i]? =_;simp[hl]
   refine .inr ⟨a,e.val,m',_,hp,?_,⟨h0,es,clock,seen.push e.born,hb',h2,h3,hr',?_⟩,⟨e2.1,e2.2.1,e2.2.2,?_,?_⟩,?_⟩
   · rw[←hk];exact hr
   · have ah:(leftOf es (seen.push e.born)).toList=l1++l2:=by
      have h6:(leftOf es (seen.push e.born)).toList=(leftOf es seen).toList.filter fun x=> !(x.born==e.born):=by
       unfold leftOf;rw[Array.toList_filter,Array.toList_filter,List.filter_filter];congr 1;funext x;rw[←Bool.not_or];congr 1;rw[Bool.eq_iff_iff];simp[Array.contains_iff_mem,Array.mem_push,or_comm]
      rw[h6,hl,List.filter_append,List.filter_cons_of_neg (by simp)];rw[Yn,Yw,List.nodup_append,List.nodup_cons]at ae;obtain⟨_,⟨n2,_⟩,n1⟩:=ae;rw[List.filter_eq_self.2,List.filter_eq_self.2]
      · intro x hx;have :x.born≠e.born:=fun q=>n2 (Yo.2 ⟨x,hx,q⟩);simpa using this
      · intro x hx;have :x.born≠e.born:=n1 _ (Yo.2 ⟨x,hx,rfl⟩) _ (by simp);simpa using this
     rw[ah];exact hf
   · show w.heap.size≤(w1.heap.setIfInBounds i _).size;simp[e1]
   · intro k hk ai;show(w1.heap.setIfInBounds i _)[k]? =_;rw[Array.getElem?_setIfInBounds_ne (Ne.symm ai),e1]
   · rw[←hk];exact run_entry_at _ i b clock seen es clock e hr' hb' ag h3.2.1
variable {ops:Array Oper}{rest:List Oper}{o:Oper}{a:Act}{Q:Exit→Act→World→Prop}
theorem pY(ae:o.guard=none)(mty et:TypeId)(x:Operand)(ho:o.op=.range mty x)(hx:a.eval x=.map (some b))(h:At enc G w b m)(hm:P.underlying mty=some (.map kt et))
 (hn:∀w',Hid (Rng enc G w' b w.heap.size m m)→Hid (Below w.heap.size w w')→wpList P ops Q rest (a.put o.dst (.pointer (some ⟨w.heap.size,0,none⟩))) w'):wpList P ops Q (o::rest) a w:=by
 obtain⟨ob,hr,h1⟩:=LJ (P:=P) mty et h hm;refine wpList_plain ae fun K hK=>?_;unfold Oper.wp execOp;simp only[ho,hx,Sem.run_bind,Sem.run_pure,Result.andThen_ok,hr];exact hK _ _ (hn _ h1 ((Yb _ w).alloc (Ya _) _))
theorem sN(ae:o.guard=none)(x:Operand)(ho:o.op=.next x false)(hx:a.eval x=.pointer (some ⟨i,0,none⟩))(h:Rng enc G w b i m left)
 (h0:left =[]→wpList P ops Q rest (a.put o.dst (.tuple #[.bool false])) w)
 (hn:∀w' k v left',Hid (left.Perm ((k,v)::left'))→Hid (Rng enc G w' b i m left')→Hid (aG i w w')→(Instr.entry (.pointer (some ⟨i,0,none⟩))).run P w'=.ok (.tuple #[enc k,v]) w'→wpList P ops Q rest (a.put o.dst (.tuple #[.bool true,enc k,v])) w'):wpList P ops Q (o::rest) a w:=by
 refine wpList_plain ae fun K hK=>?_;unfold Oper.wp;rcases h.next (P:=P) o.type with⟨hl,hr⟩ | ⟨k,v,left',w',h1,hr,h2,h3,h4⟩
 · simp[execOp,ho,hx,hr,Result.andThen];exact hK _ _ (h0 hl)
 · simp[execOp,ho,hx,hr,Result.andThen];exact hK _ _ (hn w' k v left' h1 h2 h3 h4)
end
section
variable {α:Type}[DecidableEq α]{enc:α→Value}{G:α→Prop}
def get(m:List (α×Value))(k:α):Option Value:=(m.find? fun p=>decide (p.1=k)).map (·.2)
def del(m:List (α×Value))(k:α):List (α×Value):=m.filter fun p=> !decide (p.1=k)
def put(m:List (α×Value))(k:α)(v:Value):List (α×Value):=(k,v)::del m k
theorem get_none{m:List (α×Value)}{k:α}:get m k=none↔∀p∈m,p.1≠k:=by
 unfold get;rw[Option.map_eq_none_iff,List.find?_eq_none];simp
theorem get_mem{m:List (α×Value)}{k:α}{v:Value}(h:get m k=some v):(k,v)∈m:=by
 unfold get at h;obtain⟨p,h1,h2⟩:=Option.map_eq_some_iff.1 h;have h3:=List.mem_of_find?_eq_some h1;have h4:=List.find?_some h1;simp at h4;obtain⟨a,b⟩:=p;simp at h2 h4;subst h2 h4;exact h3
theorem DC(a:α)(v:Value)(m:List (α×Value))(k:α):get ((a,v)::m) k=if a=k then some v else get m k:=by
 unfold get;by_cases h:a=k
 · rw[List.find?_cons_of_pos (by simp[h]),if_pos h];rfl
 · rw[List.find?_cons_of_neg (by simp[h]),if_neg h]
theorem Ll:∀{m:List (α×Value)} {k:α} {v:Value},(m.map (·.1)).Nodup→(k,v)∈m→get m k=some v
 | [],_,_,_,h=>by cases h
 | (a,u)::m,k,v,hn,h=>by
   rw[Yw,List.nodup_cons]at hn;rw[DC];rcases List.mem_cons.1 h with e | h'
   · cases e;rw[if_pos rfl]
   · by_cases ha:a=k
     · subst ha;exact absurd (Yo.2 ⟨_,h',rfl⟩) hn.1
     · rw[if_neg ha];exact Ll hn.2 h'
theorem XQ(m:List (α×Value))(k j:α):get (del m k) j=if j=k then none else get m j:=by
 by_cases h:j=k
 · rw[if_pos h,get_none];intro p hp;have :=(List.mem_filter.1 hp).2;simp at this;rw[h];exact this
 · rw[if_neg h];unfold get del;rw[List.find?_filter];congr 2;funext x;by_cases e:x.1=j
   · simp[e,h]
   · simp[e]
theorem get_put(m:List (α×Value))(k j:α)(v:Value):get (put m k v) j=if j=k then some v else get m j:=by
 unfold put;rw[DC,XQ];by_cases h:k=j
 · rw[if_pos h,if_pos h.symm]
 · rw[if_neg h,if_neg (fun e=>h e.symm),if_neg (fun e=>h e.symm)]
variable {P:Program}{w w':World}{r:Nat}{m:List (α×Value)}{kt:TypeId}
theorem Aq(K:Ky P kt enc G){es:Array MapEntry}(hg:∀p∈m,G p.1)(he:Es enc es.toList m){k:α}(hk:G k)(w:World):
 ((Instr.findKey kt (enc k) es.toList).run P w=.ok none w∧get m k=none∧∀e∈es.toList,e.key≠enc k)∨
 ∃j e,(Instr.findKey kt (enc k) es.toList).run P w=.ok (some (j,e.val)) w∧es.toList[j]? =some e∧e.key=enc k∧(k,e.val)∈m:=by
 rcases K.find w hk es.toList (fun e he'=>by obtain⟨p,hp,e1,_⟩:=he.mem he';exact⟨p.1,hg p hp,e1⟩)with⟨h1,h2⟩ | ⟨j,e,h1,h2,h3⟩
 · refine .inl ⟨h1,get_none.2 fun p hp e=>?_,h2⟩;obtain⟨e',he',e1,_⟩:=he.mem' hp;exact h2 e' he' (by rw[e1,e])
 · refine .inr ⟨j,e,h1,h2,h3,?_⟩;obtain⟨p,hp,e1,e2⟩:=he.mem (List.mem_of_getElem? h2);have :=K.inj hk (hg p hp) (by rw[←h3,e1]);rw[this,e2];exact hp
theorem wP(K:Ky P kt enc G)(mty et:TypeId){k:α}(hk:G k)(h:At enc G w r m)(hm:P.underlying mty=some (.map kt et)){z:Value}(hz:∀W,(zeroValue et).run P W=.ok z W)(ok:Bool):
 (Instr.lookup mty (.map (some r)) (enc k) ok).run P w=.ok (if ok then .tuple #[(get m k).getD z,.bool (get m k).isSome]else(get m k).getD z) w:=by
 have hn:=h.nodup;obtain⟨hg,es,clock,hb,he,_⟩:=h;have hc:=K.check w es.isEmpty hk;rcases Aq K hg he hk w with⟨h1,h2,_⟩ | ⟨j,e,h1,_,_,h2⟩
 · rw[h2];cases ok<;>simp[Instr.lookup,run_underlying hm,MapKept.run_getObj_map hb,hc,h1,hz,Result.andThen]
 · rw[Ll hn h2];cases ok<;>simp[Instr.lookup,run_underlying hm,MapKept.run_getObj_map hb,hc,h1,Result.andThen]
theorem ny{k:α}(h:get m k=none):del m k=m:=by
 unfold del;rw[List.filter_eq_self];intro p hp;simpa using get_none.1 h p hp
theorem IE(K:Ky P kt enc G)(mty et:TypeId){k:α}(hk:G k)(v:Value)(h:At enc G w r m)(hm:P.underlying mty=some (.map kt et)):
 ∃w',(Instr.mapUpdate mty (.map (some r)) (enc k) v).run P w=.ok () w'∧At enc G w' r (put m k v)∧aG r w w':=by
 have hn:=h.nodup;obtain⟨hg,es,clock,hb,he,hs⟩:=h;have hc:=K.check w false hk
 have ae:∀p∈put m k v,G p.1:=fun p hp=>by
  rcases List.mem_cons.1 hp with rfl | hp
  · exact hk
  · exact hg p (List.mem_filter.1 hp).1
 rcases Aq K hg he hk w with⟨h1,h2,h4⟩ | ⟨j,x,h1,h2,h3,h4⟩
 · refine⟨vJ w r (es.push {key:=enc k,val:=v,born:=clock}) (clock+1),?_,⟨ae,_,_,uC hb _ _,?_,MapKept.stamped_push hs h4⟩,nO _ _ _ _⟩
   · simp[Instr.mapUpdate,run_underlying hm,MapKept.run_getObj_map hb,hc,h1,MapKept.run_setObj_map _ hb,Result.andThen,vJ]
   · unfold put;rw[ny h2];unfold Es at he ⊢;rw[Array.toList_push,Yn,Yw];exact(List.perm_append_comm).trans (he.cons _)
 · have hj:j < es.size:=by have :=(Ys.1 h2).1;simpa using this
   have hx:es[j]=x:=by
    have :=(Ys.1 h2).2;simpa using this
   refine⟨vJ w r (es.modify j fun e=>{e with key:=enc k,val:=v}) clock,?_,⟨ae,_,_,uC hb _ _,?_,?_⟩,nO _ _ _ _⟩
   · have hkey':(es[j]?.map (·.key)).getD (enc k)=enc k:=(by rw[Array.getElem?_eq_getElem hj,hx];simp[h3]);simp[Instr.mapUpdate,run_underlying hm,MapKept.run_getObj_map hb,hc,h1,MapKept.run_setObj_map _ hb,Result.andThen,vJ,hkey',K.stays _ hk]
   · obtain⟨l1,l2,e1,e2⟩:∃l1 l2,es.toList=l1++x::l2∧(es.modify j fun e=>{e with key:=enc k,val:=v}).toList=l1++{x with key:=enc k,val:=v}::l2:=by
      refine⟨es.toList.take j,es.toList.drop (j+1),?_,?_⟩
      · have ah:j < es.toList.length:=(by simpa using hj);have :=List.take_append_drop j es.toList;rw[List.drop_eq_getElem_cons ah]at this;rw[show es.toList[j]=x by simpa using hx]at this;exact this.symm
      · apply List.ext_getElem?;intro i;simp only[Array.getElem?_toList,Array.getElem?_modify];have af:(es.toList.take j).length=j:=(by rw[Yu];simp;omega);rcases Nat.lt_trichotomy i j with hi | hi | hi
        · rw[if_neg (by omega),Xd (by omega),Yy hi,Array.getElem?_toList]
        · subst hi;rw[if_pos rfl,Xb (by omega),af,Nat.sub_self,List.getElem?_cons_zero,Array.getElem?_eq_getElem hj,hx];rfl
        · rw[if_neg (by omega),Xb (by omega),af];obtain⟨q,hq⟩:∃q,i - j=q+1:=⟨i - j - 1,by omega⟩;rw[hq,List.getElem?_cons_succ,List.getElem?_drop,Array.getElem?_toList];congr 1;omega
     rw[e1]at he;obtain⟨a,m',q1,q2,q3⟩:=he.take;have ha:a=k:=K.inj (hg (a,x.val) (q2.mem_iff.2 (by simp))) hk (by rw[←q1,h3]);subst ha
     have hd:(del m a).Perm m':=by
      have :=q2.filter (fun p=> !decide (p.1=a));refine this.trans ?_;rw[List.filter_cons_of_neg (by simp),List.filter_eq_self.2 ?_];intro p hp;have ag:=(q2.map (·.1)).nodup_iff.1 hn;rw[Yw,List.nodup_cons]at ag;have :p.1≠a:=fun e=>ag.1 (Yo.2 ⟨p,hp,e⟩);simp[this]
     rw[e2];unfold Es at q3 ⊢;unfold put;rw[Yn,Yw,Yw];rw[Yn]at q3;exact List.perm_middle.trans ((q3.trans (hd.map _).symm).cons _)
   · exact MapKept.stamped_modify hs j _ (fun e _=>rfl) (fun e _ h=>by
      rw[Array.getElem?_eq_getElem hj,hx]at h
      rw[←Yx h,h3])
theorem IJ(K:Ky P kt enc G)(mty et:TypeId)(ty:TypeId){k:α}(hk:G k)(h:At enc G w r m)(hm:P.underlying mty=some (.map kt et)):
 ∃w',(Builtin.delete_ #[mty,kt] ty #[.map (some r),enc k]).run P w=.ok (.tuple #[]) w'∧At enc G w' r (del m k)∧aG r w w':=by
 have hn:=h.nodup;obtain⟨hg,es,clock,hb,he,hs⟩:=h;have hc:=K.check w es.isEmpty hk;have ae:∀p∈del m k,G p.1:=fun p hp=>hg p (List.mem_filter.1 hp).1;rcases Aq K hg he hk w with⟨h1,h2,h4⟩ | ⟨j,x,h1,h2,h3,h4⟩
 · refine⟨vJ w r es clock,?_,⟨ae,_,_,uC hb _ _,?_,hs⟩,nO _ _ _ _⟩
   · simp[Builtin.delete_,run_underlying hm,MapKept.run_getObj_map hb,hc,h1,MapKept.run_setObj_map _ hb,Result.andThen,vJ]
   · rw[ny h2];exact he
 · have hj:j < es.size:=by have :=(Ys.1 h2).1;simpa using this
   have hx:es[j]=x:=by
    have :=(Ys.1 h2).2;simpa using this
   refine⟨vJ w r (es.eraseIdxIfInBounds j) clock,?_,⟨ae,_,_,uC hb _ _,?_,MapKept.stamped_erase hs _⟩,nO _ _ _ _⟩
   · simp[Builtin.delete_,run_underlying hm,MapKept.run_getObj_map hb,hc,h1,MapKept.run_setObj_map _ hb,Result.andThen,vJ]
   · have ag:j < es.toList.length:=by simpa using hj
     have e1:es.toList=es.toList.take j++x::es.toList.drop (j+1):=by
      have :=List.take_append_drop j es.toList;rw[List.drop_eq_getElem_cons ag]at this;rw[show es.toList[j]=x by simpa using hx]at this;exact this.symm
     have e2:(es.eraseIdxIfInBounds j).toList=es.toList.take j++es.toList.drop (j+1):=by
      unfold Array.eraseIdxIfInBounds;rw[dif_pos hj,Array.toList_eraseIdx,List.eraseIdx_eq_take_drop_succ]
     rw[e1]at he;obtain⟨a,m',q1,q2,q3⟩:=he.take;have ha:a=k:=K.inj (hg (a,x.val) (q2.mem_iff.2 (by simp))) hk (by rw[←q1,h3]);subst ha
     have hd:(del m a).Perm m':=by
      have :=q2.filter (fun p=> !decide (p.1=a));refine this.trans ?_;rw[List.filter_cons_of_neg (by simp),List.filter_eq_self.2 ?_];intro p hp;have af:=(q2.map (·.1)).nodup_iff.1 hn;rw[Yw,List.nodup_cons]at af;have :p.1≠a:=fun e=>af.1 (Yo.2 ⟨p,hp,e⟩);simp[this]
     rw[e2];exact q3.trans (hd.map _).symm
variable {b i:Nat}{left :List (α×Value)}
variable {ops:Array Oper}{rest:List Oper}{o:Oper}{a:Act}{Q:Exit→Act→World→Prop}
theorem Dy(K:Ky P kt enc G)(mty et:TypeId)(x y:Operand)(ok:Bool)(ho:o.op=.lookup mty x y ok)(k:α)(hk:G k)(hx:a.eval x=.map (some r))(hy:a.eval y=enc k)(h:At enc G w r m)(hm:P.underlying mty=some (.map kt et))
 {z:Value} (hz:∀W,(zeroValue et).run P W=.ok z W):(execOp a.eval o).run P w=.ok (.value (if ok then .tuple #[(get m k).getD z,.bool (get m k).isSome]else(get m k).getD z)) w:=by
 unfold execOp;simp only[ho,hx,hy,Sem.run_bind,Sem.run_pure,Result.andThen_ok,wP K mty et hk h hm hz ok]
theorem dJ(K:Ky P kt enc G)(ae:o.guard=none)(mty et:TypeId)(x y:Operand)(ok:Bool)(ho:o.op=.lookup mty x y ok)(k:α)(hk:G k)(hx:a.eval x=.map (some r))(hy:a.eval y=enc k)(h:At enc G w r m)(hm:P.underlying mty=some (.map kt et))
 {z:Value} (hz:∀W,(zeroValue et).run P W=.ok z W) (hn:wpList P ops Q rest (a.put o.dst (if ok then .tuple #[(get m k).getD z,.bool (get m k).isSome]else(get m k).getD z)) w):wpList P ops Q (o::rest) a w:=
 vS ae _ (Dy K mty et x y ok ho k hk hx hy h hm hz) hn
theorem di(K:Ky P kt enc G)(ae:o.guard=none)(mty et:TypeId)(x y z:Operand)(ho:o.op=.mapUpdate mty x y z)(k:α)(hk:G k)(v:Value)(hx:a.eval x=.map (some r))(hy:a.eval y=enc k)(hv:a.eval z=v)(h:At enc G w r m)(hm:P.underlying mty=some (.map kt et))
 (hn:∀w',Hid (At enc G w' r (put m k v))→Hid (aG r w w')→wpList P ops Q rest (a.put o.dst undef) w'):wpList P ops Q (o::rest) a w:=by
 obtain⟨w',hr,h1,h2⟩:=IE (P:=P) K mty et hk v h hm;refine wpList_plain ae fun K hK=>?_;unfold Oper.wp execOp;simp only[ho,hx,hy,hv,Sem.run_bind,Sem.run_pure,Result.andThen_ok,hr];exact hK _ _ (hn w' h1 h2)
end
end KM
end Go.Proofs.YtfddbnmfllgifaaGreatDoor
