/- Part of TopMembers. -/
import Derived.Test.YtfddbnmfllgifaaGreatDoorA3
import Derived.RangeFuncNested
import Derived.LoopIn
import Derived.RecoverIn
set_option linter.unusedVariables false
set_option linter.unusedSimpArgs false
set_option maxHeartbeats 64000000
namespace Go.Proofs.YtfddbnmfllgifaaGreatDoor
open Go.RowKit
def iU(o:Oper):Bool:=match o.op with | .defer _=>false | _=>true
theorem Aa{k n:Nat}{P:Program}{o:Oper}{a:Act}{next next':Act→World→Prop}{Q:Exit→Act→World→Prop}(hn:∀a w,next a w→next' a w){r:Result Next}(h:o.upon P a next Q r):
 o.uponIn (Fence.wide.inRound k) n P a next' Q r:=by
 unfold Oper.upon at h;unfold Oper.uponIn;split at h
 · exact hn _ _ h
 · exact hn _ _ h
 · exact hn _ _ h
 · refine⟨fun e=>(by cases e),?_⟩;refine CallsIn.inRound k (callsIn_wide.2 (h.mono ?_));rintro(v | c | _) w' hw
   · exact hn _ _ hw
   · exact hw
   · exact hw
 · rename_i row args w';refine⟨fun e=>(by cases e),fun c cs hr=>?_⟩;obtain⟨v,w2,h1,h2⟩:=h c cs;exact⟨v,w2,hn _ _ h1,stepsIn_wide.2 h2⟩
 · exact h
 · exact h.elim
theorem jr{k n:Nat}{P:Program}{ops:Array Oper}{Q:Exit→Act→World→Prop}(hQ:¬LetsOut Q):∀(l:List Oper) (a:Act) (w:World),l.all iU=true→wpList P ops Q l a w→wpListIn (Fence.wide.inRound k) n P ops Q l a w
 | [],a,w,_,h=>h
 | o::l,a,w,hd,h=>by
   rw[List.all_cons,Bool.and_eq_true]at hd;unfold wpList at h;unfold wpListIn;split
   · rename_i hw;rw[if_pos hw]at h;rcases h with h | ⟨_,h⟩
     · refine⟨fun _ _=>trivial,?_⟩
       rw[show(Fence.wide.inRound k).round=some k from rfl,Oper.semAt_some k _ _ (fun c hc=>by
        have :=hd.1;unfold iU at this;rw[hc]at this;cases this)]
       unfold Oper.wp at h;exact Aa (fun a w h=>jr hQ l a w hd.2 h) h
     · exact absurd h hQ
   · rename_i hw;rw[if_neg hw]at h;exact⟨fun _ _=>trivial,jr hQ l _ _ hd.2 h⟩
theorem bU{k n id:Nat}{P:Program}{l:List Oper}{Q:Exit→Act→World→Prop}{a:Act}{w:World}(hQ:¬LetsOut Q)(hd:l.all iU=true)(h:wpList P l.toArray Q l a w):(Code.region id l.toArray false).wpIn (Fence.wide.inRound k) n P Q a w:=
 wpIn_region_lit (jr hQ l a w hd h)
def lF(P:Program)(n:Nat)(ops:Array Oper)(rest:List Oper)(Q:Exit→Act→World→Prop):Exit→Act→World→Prop:=fun e a w=>match e with
 | .normal=>wpListIn Fence.wide n P ops Q rest a w
 | .outgrown=>False
 | e=>Q e a w
theorem Dl{n:Nat}{P:Program}{o:Oper}{a:Act}{next next':Act→World→Prop}{Q Q':Exit→Act→World→Prop}(hQ:¬LetsOut Q)(hp:∀c a w,Q (.panic c) a w→Q' (.panic c) a w)(hn:∀a w,next a w→next' a w){r:Result Next}(h:o.upon P a next Q r):
 o.uponIn Fence.wide n P a next' Q' r:=by
 unfold Oper.upon at h;unfold Oper.uponIn;split at h
 · exact hn _ _ h
 · exact hn _ _ h
 · exact hn _ _ h
 · refine⟨fun e=>(by cases e),?_⟩;refine callsIn_wide.2 (h.mono ?_);rintro(v | c | _) w' hw
   · exact hn _ _ hw
   · exact hp _ _ _ hw
   · exact absurd hw hQ
 · rename_i row args w';refine⟨fun e=>(by cases e),fun c cs hr=>?_⟩;obtain⟨v,w2,h1,h2⟩:=h c cs;exact⟨v,w2,hn _ _ h1,stepsIn_wide.2 h2⟩
 · exact hp _ _ _ h
 · exact h.elim
theorem lS{n:Nat}{P:Program}{ops:Array Oper}{Q:Exit→Act→World→Prop}{rest:List Oper}:∀(l:List Oper) (a:Act) (w:World),wpList P ops (lF P n ops rest Q) l a w→wpListIn Fence.wide n P ops Q (l++rest) a w
 | [],a,w,h=>h
 | o::l,a,w,h=>by
   have hQ:¬LetsOut (lF P n ops rest Q):=fun⟨_,_,h⟩=>h;unfold wpList at h;show wpListIn Fence.wide n P ops Q (o::(l++rest)) a w;unfold wpListIn;split
   · rename_i hw;rw[if_pos hw]at h;rcases h with h | ⟨_,h⟩
     · refine⟨fun _ _=>trivial,?_⟩;rw[show Fence.wide.round=none from rfl,Oper.semAt_none];unfold Oper.wp at h;exact Dl (Q:=lF P n ops rest Q) (Q':=Q) (next:=wpList P ops (lF P n ops rest Q) l) hQ (fun c a w h=>h) (fun a w h=>lS l a w h) h
     · exact absurd h hQ
   · rename_i hw;rw[if_neg hw]at h;exact⟨fun _ _=>trivial,lS l _ _ h⟩
theorem bV{n:Nat}{P:Program}{ops:Array Oper}{Q:Exit→Act→World→Prop}{L:List Oper}(k:Nat){a:Act}{w:World}(h:wpList P ops (lF P n ops (L.drop k) Q) (L.take k) a w):wpListIn Fence.wide n P ops Q L a w:=by
 have :=lS (n:=n) _ a w h;rwa[List.take_append_drop]at this
theorem dY{n:Nat}{P:Program}{ops:Array Oper}{Q:Exit→Act→World→Prop}{rest:List Oper}{o:Oper}{a:Act}{w:World}(hg:o.guard=none)(x:Operand)(args:Array Operand)(af:Array TypeId)(ho:o.op=.call {callee:=.value x,args:=args,argTypes:=af})(l:Nat)(hx:a.eval x=.func (.yield l) #[] #[])
 (vs:Array Value) (hv:args.toList.map a.eval=vs.toList) {R:Ending→World→Prop} (hy:YieldAt Fence.wide (n - 1) P l vs w R)
 (h:∀e w',R e w'→∃v,e=.returned v∧wpListIn Fence.wide n P ops Q rest (a.put o.dst v) w'):wpListIn Fence.wide n P ops Q (o::rest) a w:=by
 have hv:args.map a.eval=vs:=(by apply Array.ext';rw[Array.toList_map,hv]);refine wpListIn_plain hg fun K hK=>?_;obtain⟨fn,tmps,assign,body,h1,h2⟩:=hy;unfold Oper.wpIn;refine⟨fun _ _=>trivial,?_⟩;rw[show Fence.wide.round=none from rfl,Oper.semAt_none]
 have ae:(execOp a.eval o).run P w=.ok (.round l fn tmps assign body) w:=by
  subst hv;simp[execOp,ho,resolve,invoke,hx,h1,Result.andThen,Deferred.ofValue]
 rw[ae];refine⟨fun e=>(by cases e),h2.mono ?_⟩;intro e w' hr;obtain⟨v,rfl,h3⟩:=h e w' hr;exact hK _ _ h3
theorem dX{P:Program}{f:FuncId}{fn:Func}{c:Code}{args:Array Value}{w:World}{R:Ending→World→Prop}(hf:P.funcs[f]? =some fn)(hb:fn.body=some c)
 (h:c.wp P (bodyPostM Fence.wide 5 P fn R) {tmps:=args++Array.replicate (fn.ntmps - args.size) undef,defers:=[]} w):Calls P f args w R:=
 callsIn_wide.1 (callsIn_of_wp_marks (n:=5) hf hb trivial (wpIn_wide.2 h))
def Deaf{β:Type}(B:Nat)(J:β→World→Prop):Prop:=∀s W W',J s W→aG B W W'→J s W'
def KG{α:Type}(F:Fence)(n:Nat)(P:Program)(g:Nat)(lb:Array Value)(encs:α→Array Value)(Kp:World→World→Prop)(B:Nat)(S:List α→Prop)(N:Nat)(w:World):Prop:=
 ∀(l:Nat) (J:List α→World→Prop) (W:World),Below w.heap.size w W→AbidesFrom W.heap.size J→Deaf B J→
  (∀pre x W1,J pre W1→pre.length < N→YieldAt F (n - 1) P l (encs x) W1 fun e W'=>e=.returned (.bool true)∧J (pre++[x]) W'∧Kp W1 W')→
  J [] W→CallsIn F n P g (#[.func (.yield l) #[] #[]]++lb) W fun e W'=>(∃v,e=.returned v)∧∃xs,S xs∧J xs W'
section
variable {F:Fence}{n:Nat}{P:Program}
theorem wo{B k:Nat}{A C:World}{o:Obj}(h:aG B A C)(hk:A.heap[k]? =some o)(ae:k≠B):C.heap[k]? =some o:=(h.block k (Yi.1 hk).1 ae).trans hk
theorem ug{α:Type}{g:Operand}{ps:Array Tmp}{assign body:Code}{Q:Exit→Act→World→Prop}{a:Act}{w:World}
 (au:F.round=none) (h1:1≤n) {gf:Nat} {lb:Array Value} (hg:a.eval g=.func (.func gf) #[] lb) (hFg:F.fn gf) (eg:∀args w,(callFunc gf args).run P w=.ok (.enter gf args) w)
 {encs:α→Array Value} {Kp:World→World→Prop} {B:Nat} {S:List α→Prop} {N:Nat} {w0:World} (ah:KG F (n - 1) P gf lb encs Kp B S N w0) (hB:B < w.heap.size)
 (hKt:∀{A B C:World},Kp A B→Kp B C→Kp A C) (hKb:∀(W:World) (l:Nat) (o o':Obj),w.heap.size≤l→W.heap[l]? =some o→o.isCells=false→o.isWalk=false→Kp W (W.putObj l o')) (aj:Below w0.heap.size w0 w) (ax:∀x,(encs x).size=ps.size)
 (I:List α→World→Prop) (hI:OwnFrom w.heap.size I) (hD:Deaf B I) (h0:I [] w) (a₁:α→Act)
 (hassign:∀(l:Nat) (x:α) (W:World) (K:Act→World→Prop),K (a₁ x) W→
   assign.wpIn (F.inRound l) (n - 1 - 1) P (Exit.then K (fun _ _ _=>False)) {tmps:=(ps.zip (encs x)).foldl (fun t (p,v)=>t.setIfInBounds p v) a.tmps,defers:=[]} W)
 (hbody:∀(l:Nat) (pre:List α) (x:α) (W:World),I pre W→pre.length < N→body.wpIn (F.inRound l) (n - 1 - 1) P (ownPostG w.heap.size Kp I (fun _ _ _=>False) (pre++[x]) W) (a₁ x) W)
 (hdone:∀(D:Nat) (xs:List α) (W:World),w.heap.size≤D→S xs→I xs W→W.heap[D]? =some (.deferred (some []))→Q .normal {a with defers:={target:=.collected D,args:= #[]}::a.defers} W):
 (Code.rangeFunc g ps assign body).wpIn F n P Q a w:=by
 refine wpIn_rangeFunc fun fn ay=>?_;rw[au];obtain⟨rc,ae⟩:∃rc:LoopState→Option Code→Loop,rc=fun st pe=>{state:=st,pending:=pe,fn,tmps:=a.tmps,params:=ps,assign,body,defers:=w.heap.size}:=⟨_,rfl⟩;obtain⟨W1,af⟩:=zg ((w.alloc (.deferred (some []))).alloc (.loop (rc .ready none)))
 have L1:W1.heap[w.heap.size+1]? =some (.loop (rc .ready none)):=by
  rw[←af];have :=World.alloc_heap_new (w.alloc (.deferred (some []))) (.loop (rc .ready none));rwa[Xi]at this
 have D1:W1.heap[w.heap.size]? =some (.deferred (some [])):=by
  rw[←af];exact(Below.heap_alloc _ _ _ (by simp)).trans (World.alloc_heap_new w _)
 have Z1:W1.heap.size=w.heap.size+2:=by rw[←af];simp
 refine⟨w.heap.size+1,[{target:=.collected w.heap.size,args:= #[]}],W1,{target:=.fn (.func gf) lb,args:= #[.func (.yield (w.heap.size+1)) #[] #[]]},W1,gf,
  #[.func (.yield (w.heap.size+1)) #[] #[]]++lb,W1,by rw[←af,ae];exact run_enterLoop_outer _ _ _ _ _,by simp only[resolve,hg];simp[go_sem],?_,by simp[invoke,go_sem,eg],fun _=>h1,?_⟩
 · intro f' hf';simp[Target.leads]at hf';subst hf';exact hFg
 refine(ah (w.heap.size+1) (fun pre W=>I pre W∧W.heap[w.heap.size+1]? =some (.loop (rc .ready none))∧W.heap[w.heap.size]? =some (.deferred (some []))) W1
  (by rw[←af];exact aj.trans ((((Yb _ w).alloc (Ya _) _).alloc (by simp) _).mono aj.size)) ?_ ?_ ?_ ⟨by rw[←af];exact hI.alloc _ (hI.alloc _ h0),L1,D1⟩).mono ?_
 · intro s A C row hs ai hr;refine⟨hI s A C row hs.1 ai (fun r e=>?_),(grownBy_keeps ai (fun r e=>(hr r e).2) hs.2.1 rfl).trans hs.2.1,(grownBy_keeps ai (fun r e=>(hr r e).2) hs.2.2 rfl).trans hs.2.2⟩;obtain⟨q,o,ho,hw⟩:=hr r e;exact⟨by omega,o,ho,Obj.not_cells_of_walk hw⟩
 · intro s A C hs ho;exact⟨hD s A C hs.1 ho,wo ho hs.2.1 (by omega),wo ho hs.2.2 (by omega)⟩
 · rintro pre x W ⟨hi,hl,hk⟩ hlen;have hy:=run_yield (P:=P) (args:=encs x) hl (by rw[ae];exact ax x);rw[ae]at hy;refine⟨fn,_,assign,body,hy,roundIn_of_wpIn ay (hassign _ x W _ ⟨_,run_beginRound hl (by rw[ae]),?_⟩)⟩;have az:=(Yi.1 hl).1;obtain⟨Wb,ag⟩:=zg (W.putObj (w.heap.size+1) (.loop {rc .ready none with state:=.busy}));have l2:Wb.heap[w.heap.size+1]? =some (.loop {rc .ready none with state:=.busy}):=(by rw[←ag];exact World.putObj_heap_same az);have k2:Wb.heap[w.heap.size]? =some (.deferred (some [])):=(by rw[←ag];exact(World.putObj_heap_other (by omega)).trans hk);have q2:Kp W Wb:=(by rw[←ag];exact hKb _ _ _ _ (by omega) hl rfl rfl);have i2:I pre Wb:=(by rw[←ag];exact hI.putObj _ hi (by omega) hl rfl);rw[show({rc .ready none with state:=.busy}:Loop)={rc .ready none with state:=.busy}from rfl,ag];refine wpIn_mono (hbody _ pre x Wb i2 hlen) ?_;rintro e a3 W3 hp
   cases e with
   | normal=>
     obtain⟨ak,aA,aB⟩:=hp;have l3:=ak.same _ _ (by omega) l2 rfl;have k3:=ak.same _ _ (Ya _) k2 rfl;have hr:=run_endRound (P:=P) none l3;rw[ae]at hr l3;refine⟨_,_,hr,rfl,⟨hI.putObj _ aB (by omega) l3 rfl,?_,(World.putObj_heap_other (by omega)).trans k3⟩,hKt (hKt q2 aA) (hKb _ _ _ _ (by omega) l3 rfl rfl)⟩;rw[ae];exact World.putObj_heap_same (Yi.1 l3).1
   | ret=>exact hp.2.elim
   | exit id=>exact hp.2.elim
   | goto t=>exact hp.2.elim
   | panic ch=>exact hp.elim
   | outgrown=>exact hp.elim
 · rintro e W2 ⟨⟨v,rfl⟩,xs,hS,hi,hl,hk⟩;have he:=run_endLoop (P:=P) hl (by rw[ae];simp);rw[ae]at he hl;exact⟨none,_,he,hdone _ xs _ (Ya _) hS (hI.putObj _ hi (by omega) hl rfl) ((World.putObj_heap_other (by omega)).trans hk)⟩
end
def kJ(B:Nat)(A:World)(row:Option Nat):Prop:=∀r,row=some r→B≤r∧∃o:Obj,A.heap[r]? =some o∧o.isCells=false
structure Body{β:Type}(B:Nat)(J:β→World→Prop)(Fr:World→Nat→Prop):Prop where
 own:OwnFrom B J
 fresh:∀s A k,J s A→A.heap.size≤k→Fr A k
 grow:∀s A C k row,J s A→Fr A k→A.grownBy C row→kJ B A row→Fr C k
structure Kf(Fr:World→Nat→Prop)(W W':World):Prop where
 size:W.heap.size≤W'.heap.size
 same:∀k,k < W.heap.size→Fr W k→W'.heap[k]? =W.heap[k]? ∧Fr W' k
theorem Kf.refl(Fr:World→Nat→Prop)(W:World):Kf Fr W W:=⟨Ya _,fun _ _ h=>⟨rfl,h⟩⟩
theorem Kf.trans{Fr:World→Nat→Prop}{a b c:World}(h:Kf Fr a b)(k:Kf Fr b c):Kf Fr a c:=
 ⟨Yc h.size k.size,fun i hi hf=>by
   obtain⟨e1,f1⟩:=h.same i hi hf;obtain⟨e2,f2⟩:=k.same i (Yg hi h.size) f1
   exact⟨e2.trans e1,f2⟩⟩
theorem Kf.only {Fr:World→Nat→Prop}{W A C:World}{i:Nat}(h:Kf Fr W A)(ob:aG i A C)(hi:W.heap.size≤i)(f:∀k,Fr A k→Fr C k):Kf Fr W C:=
 ⟨Yc h.size ob.size,fun k hk hf=>by
   obtain⟨e,g⟩:=h.same k hk hf
   exact⟨(ob.block k (Yg hk h.size) (by omega)).trans e,f k g⟩⟩
theorem bD{W W':World}(b:Below W.heap.size W W'):W.grownBy W' none:=⟨b.os,b.tape,b.output,b.size,fun k hk _=>b.block k hk⟩
section
variable {β:Type}{B:Nat}{J:β→World→Prop}{Fr:World→Nat→Prop}{s:β}{A C:World}
theorem Body.below(h:Body B J Fr)(hs:J s A)(b:Below A.heap.size A C):J s C:=h.own s A C none hs (bD b) (fun r e=>by cases e)
theorem Body.kf(h:Body B J Fr)(hs:J s A)(b:Below A.heap.size A C):Kf Fr A C:=
 ⟨b.size,fun k hk hf=>⟨b.block k hk,h.grow s A C k none hs hf (bD b) (fun r e=>by cases e)⟩⟩
theorem Body.put(h:Body B J Fr)(hs:J s A){l:Nat}{o:Obj}(o':Obj)(hl:B≤l)(ho:A.heap[l]? =some o)(hc:o.isCells=false):J s (A.putObj l o')∧∀k,Fr A k→Fr (A.putObj l o') k:=
 ⟨h.own.putObj o' hs hl ho hc,fun k hf=>h.grow s A _ k (some l) hs hf (grownBy_putObj' A l o') (fun r e=>by cases e;exact⟨hl,o,ho,hc⟩)⟩
theorem Body.up(h:Body B J Fr){B':Nat}(hb:B≤B'):Body B' J Fr:=
 ⟨fun s A C row hs hg hr=>h.own s A C row hs hg (fun r e=>⟨Yc hb (hr r e).1,(hr r e).2⟩),h.fresh,fun s A C k row hs hf hg hr=>h.grow s A C k row hs hf hg (fun r e=>⟨Yc hb (hr r e).1,(hr r e).2⟩)⟩
end
def tX{α:Type}(n:Nat)(P:Program)(g:Nat)(lb:Array Value)(encs:α→Array Value)(D:α→World→Prop)(Nd:Nat→Prop)(S:List α→Prop)(N:Nat)(w:World):Prop:=
 ∀(l:Nat) (J:List α→World→Prop) (Fr:World→Nat→Prop) (W:World),Below w.heap.size w W→Body W.heap.size J Fr→(∀k,Nd k→Fr W k)→
  (∀pre x W1,J pre W1→D x W1→pre.length < N→YieldAt Fence.wide (n - 1) P l (encs x) W1 fun e W'=>e=.returned (.bool true)∧J (pre++[x]) W'∧Kf Fr W1 W')→
  J [] W→Calls P g (#[.func (.yield l) #[] #[]]++lb) W fun e W'=>(∃v,e=.returned v)∧(∃xs,S xs∧J xs W')∧Kf Fr W W'
section
variable {n:Nat}{P:Program}
theorem fP{α:Type}{g:Operand}{ps:Array Tmp}{assign body:Code}{Q:Exit→Act→World→Prop}{a:Act}{w:World}
 (h1:1≤n) {gf:Nat} {lb:Array Value} (hg:a.eval g=.func (.func gf) #[] lb) (eg:∀args w,(callFunc gf args).run P w=.ok (.enter gf args) w)
 {encs:α→Array Value} {D:α→World→Prop} {Nd:Nat→Prop} {S:List α→Prop} {N:Nat} {w0:World} (au:tX (n - 1) P gf lb encs D Nd S N w0) (aA:Below w0.heap.size w0 w) (aF:∀x,(encs x).size=ps.size)
 (I:List α→World→Prop) (Fr:World→Nat→Prop) (hI:Body w.heap.size I Fr) (hN:∀k,Nd k→Fr w k) (h0:I [] w) (Ax:α→Act→World→Prop) (hAx:∀x a',OwnFrom w.heap.size (fun(_:Unit) W=>Ax x a' W))
 (hassign:∀(l:Nat) (pre:List α) (x:α) (W:World) (K:Act→World→Prop),I pre W→D x W→w.heap.size≤W.heap.size→(∀a' W',Below W.heap.size W W'→Ax x a' W'→K a' W')→
   assign.wpIn (Fence.wide.inRound l) (n - 1 - 1) P (Exit.then K (fun _ _ _=>False)) {tmps:=(ps.zip (encs x)).foldl (fun t (p,v)=>t.setIfInBounds p v) a.tmps,defers:=[]} W)
 (hbody:∀(l:Nat) (pre:List α) (x:α) (a':Act) (W:World),w.heap.size≤l→(∃r,W.heap[l]? =some (.loop r))→I pre W→Ax x a' W→pre.length < N→w.heap.size≤W.heap.size→
   body.wpIn (Fence.wide.inRound l) (n - 1 - 1) P (fun e _ W'=>e=.normal∧I (pre++[x]) W'∧Kf Fr W W') a' W)
 (hdone:∀(D:Nat) (xs:List α) (W:World),w.heap.size≤D→S xs→I xs W→Kf Fr w W→W.heap[D]? =some (.deferred (some []))→Fr W D→Q .normal {a with defers:={target:=.collected D,args:= #[]}::a.defers} W):
 (Code.rangeFunc g ps assign body).wpIn Fence.wide n P Q a w:=by
 refine wpIn_rangeFunc fun fn aG=>?_;rw[show Fence.wide.round=none from rfl];obtain⟨rc,ae⟩:∃rc:LoopState→Option Code→Loop,rc=fun st pe=>{state:=st,pending:=pe,fn,tmps:=a.tmps,params:=ps,assign,body,defers:=w.heap.size}:=⟨_,rfl⟩;obtain⟨W1,ai⟩:=zg ((w.alloc (.deferred (some []))).alloc (.loop (rc .ready none)))
 have L1:W1.heap[w.heap.size+1]? =some (.loop (rc .ready none)):=by
  rw[←ai];have :=World.alloc_heap_new (w.alloc (.deferred (some []))) (.loop (rc .ready none));rwa[Xi]at this
 have D1:W1.heap[w.heap.size]? =some (.deferred (some [])):=by
  rw[←ai];exact(Below.heap_alloc _ _ _ (by simp)).trans (World.alloc_heap_new w _)
 have Z1:W1.heap.size=w.heap.size+2:=(by rw[←ai];simp);have b1:Below w.heap.size w W1:=(by rw[←ai];exact((Yb _ w).alloc (Ya _) _).alloc (by simp) _);have F1:∀k,w.heap.size≤k→Fr W1 k:=fun k hk=>hI.grow _ _ _ _ none h0 (hI.fresh _ _ _ h0 hk) (bD b1) (fun r e=>by cases e)
 refine⟨w.heap.size+1,[{target:=.collected w.heap.size,args:= #[]}],W1,{target:=.fn (.func gf) lb,args:= #[.func (.yield (w.heap.size+1)) #[] #[]]},W1,gf,
  #[.func (.yield (w.heap.size+1)) #[] #[]]++lb,W1,by rw[←ai,ae];exact run_enterLoop_outer _ _ _ _ _,by simp only[resolve,hg];simp[go_sem],?_,by simp[invoke,go_sem,eg],fun _=>h1,?_⟩
 · intro f' hf';trivial
 have HJ:Body W1.heap.size (fun pre W=>I pre W∧w.heap.size≤W.heap.size∧W.heap[w.heap.size+1]? =some (.loop (rc .ready none))∧W.heap[w.heap.size]? =some (.deferred (some []))∧Fr W w.heap.size∧Fr W (w.heap.size+1)) Fr:=by
  refine⟨fun s A C row hs ag hr=>?_,fun s A k hs hk=>hI.fresh s A k hs.1 hk,fun s A C k row hs hf ag hr=>hI.grow s A C k row hs.1 hf ag (fun r e=>⟨by have :=(hr r e).1;omega,(hr r e).2⟩)⟩;have hr':kJ w.heap.size A row:=fun r e=>⟨by have :=(hr r e).1;omega,(hr r e).2⟩;have keep:∀k o,k < w.heap.size+2→A.heap[k]? =some o→C.heap[k]? =some o:=fun k o hk ho=>(ag.block k (Yi.1 ho).1 (fun e=>by have :=(hr k e.symm).1;omega)).trans ho;exact⟨hI.own s A C row hs.1 ag hr',Yc hs.2.1 ag.size,keep _ _ (by omega) hs.2.2.1,keep _ _ (by omega) hs.2.2.2.1,hI.grow s A C _ row hs.1 hs.2.2.2.2.1 ag hr',hI.grow s A C _ row hs.1 hs.2.2.2.2.2 ag hr'⟩
 refine(callsIn_wide.2 (au (w.heap.size+1) _ Fr W1 (aA.trans (b1.mono aA.size)) HJ (fun k hk=>hI.grow _ _ _ _ none h0 (hN k hk) (bD b1) (fun r e=>by cases e)) ?_
  ⟨by rw[←ai];exact hI.own.alloc _ (hI.own.alloc _ h0),b1.size,L1,D1,F1 _ (Ya _),F1 _ (Nat.le_succ _)⟩)).mono ?_
 · rintro pre x W ⟨hi,aB,hl,hk,ax,aH⟩ hD hlen;have hy:=run_yield (P:=P) (args:=encs x) hl (by rw[ae];exact aF x);rw[ae]at hy;refine⟨fn,_,assign,body,hy,roundIn_of_wpIn aG (hassign _ pre x W _ hi hD aB ?_)⟩;clear hy;intro a' Wa af aI;have ak:Wa.heap[w.heap.size+1]? =some (.loop (rc .ready none)):=(af.block _ (Yi.1 hl).1).trans hl;have aJ:Wa.heap[w.heap.size]? =some (.deferred (some [])):=(af.block _ (Yi.1 hk).1).trans hk;have aK:=(Yi.1 ak).1;have aN:=hI.below hi af;refine⟨_,run_beginRound ak (by rw[ae]),?_⟩;obtain⟨Wb,ah⟩:=zg (Wa.putObj (w.heap.size+1) (.loop {rc .ready none with state:=.busy}));have l2:Wb.heap[w.heap.size+1]? =some (.loop {rc .ready none with state:=.busy}):=(by rw[←ah];exact World.putObj_heap_same aK);have k2:Wb.heap[w.heap.size]? =some (.deferred (some [])):=by rw[←ah];exact(World.putObj_heap_other (by omega)).trans aJ
   obtain⟨i2,f2⟩:=hI.put aN (.loop {rc .ready none with state:=.busy}) (by omega) ak rfl;rw[ah]at i2 f2;have z2:Wb.heap.size=Wa.heap.size:=(by rw[←ah];simp[World.putObj]);have ka:=hI.kf hi af;have x2:Ax x a' Wb:=(by rw[←ah];exact(hAx x a').putObj (s:=()) _ aI (by omega) ak rfl);rw[show({rc .ready none with state:=.busy}:Loop)={rc .ready none with state:=.busy}from rfl,ah];refine wpIn_mono (hbody _ pre x a' Wb (by omega) ⟨_,l2⟩ i2 x2 hlen (by have :=af.size;omega)) ?_;rintro e a3 W3 ⟨rfl,aO,aj⟩;have aP:=f2 _ (ka.same _ (by have :=(Yi.1 hk).1;omega) ax).2;have aQ:=f2 _ (ka.same _ (Yi.1 hl).1 aH).2;obtain⟨el,fl⟩:=aj.same _ (by omega) aQ;obtain⟨ek,fk⟩:=aj.same _ (by omega) aP;have l3:=el.trans l2;have k3:=ek.trans k2;have hr:=run_endRound (P:=P) none l3;rw[ae]at hr l3;obtain⟨i4,f4⟩:=hI.put aO (.loop (rc .ready none)) (by omega) l3 rfl
   have er:∀W:World,W.putObj (w.heap.size+1) (.loop (rc .ready none))=W.putObj (w.heap.size+1) (.loop {state:=.ready,pending:=none,fn,tmps:=a.tmps,params:=ps,assign,body,defers:=w.heap.size}):=fun W=>(by rw[ae]);rw[er]at i4 f4;refine⟨_,_,hr,rfl,⟨i4,?_,?_,(World.putObj_heap_other (by omega)).trans k3,f4 _ fk,f4 _ fl⟩,?_,?_⟩
   · have :=aj.size;have :=af.size;simp[World.putObj];omega
   · rw[ae];exact World.putObj_heap_same (Yi.1 l3).1
   · have :=aj.size;have :=af.size;simp[World.putObj];omega
   · intro k ay az;obtain⟨e1,g1⟩:=ka.same k ay az;have aS:k < Wb.heap.size:=(by have :=af.size;omega);obtain⟨e3,g3⟩:=aj.same k aS (f2 k g1);refine⟨?_,f4 k g3⟩;by_cases aT:k=w.heap.size+1
     · subst aT;refine(World.putObj_heap_same (Yi.1 l3).1).trans ?_;rw[hl,ae];rfl
     · have e2:Wb.heap[k]? =Wa.heap[k]? :=(by rw[←ah];exact World.putObj_heap_other (by omega));exact(World.putObj_heap_other (by omega)).trans (e3.trans (e2.trans e1))
 · rintro e W2 ⟨⟨v,rfl⟩,⟨xs,hS,hi,aB,hl,hk,ax,_⟩,aC⟩;have PU:=fun o'=>hI.put hi o' (by omega) hl rfl;have he:=run_endLoop (P:=P) hl (by rw[ae];simp);rw[ae]at he hl;refine⟨none,_,he,hdone _ xs _ (Ya _) hS (PU _).1 ⟨by have :=aC.size;simp[World.putObj];omega,fun k ay az=>?_⟩ ((World.putObj_heap_other (by omega)).trans hk) ((PU _).2 _ ax)⟩;obtain⟨e2,g2⟩:=aC.same k (by omega) (hI.grow _ _ _ _ none h0 az (bD b1) (fun r e=>by cases e));exact⟨(World.putObj_heap_other (by omega)).trans (e2.trans (b1.block k ay)),(PU _).2 k g2⟩
theorem lZ{m:Nat}{ops:Array Oper}{Q:Exit→Act→World→Prop}{rest:List Oper}{o:Oper}{a:Act}{w:World}{k:Nat}(hg:o.guard=none)(x:Operand)(args:Array Operand)(af:Array TypeId)(ho:o.op=.call {callee:=.value x,args:=args,argTypes:=af})(l:Nat)(hx:a.eval x=.func (.yield l) #[] #[])
 (vs:Array Value) (hv:args.toList.map a.eval=vs.toList) {R:Ending→World→Prop} (hy:YieldAt Fence.wide (m - 1) P l vs w R)
 (h:∀e w',R e w'→∃v,e=.returned v∧wpListIn (Fence.wide.inRound k) m P ops Q rest (a.put o.dst v) w'):wpListIn (Fence.wide.inRound k) m P ops Q (o::rest) a w:=by
 have hv:args.map a.eval=vs:=(by apply Array.ext';rw[Array.toList_map,hv]);refine wpListIn_plain hg fun K hK=>?_;obtain⟨fn,tmps,assign,body,h1,h2⟩:=hy;unfold Oper.wpIn;refine⟨fun _ _=>trivial,?_⟩;rw[show(Fence.wide.inRound k).round=some k from rfl,Oper.semAt_some k _ _ (fun c hc=>by rw[ho]at hc;cases hc)]
 have ae:(execOp a.eval o).run P w=.ok (.round l fn tmps assign body) w:=by
  subst hv;simp[execOp,ho,resolve,invoke,hx,h1,Result.andThen,Deferred.ofValue]
 rw[ae];refine⟨fun e=>(by cases e),RoundIn.mono (F:=Fence.wide.inRound k) h2 ?_⟩;intro e w' hr;obtain⟨v,rfl,h3⟩:=h e w' hr;exact hK _ _ h3
end
def SeqT{α:Type}(Ty:World→Nat→Prop)(n:Nat)(P:Program)(g:Nat)(lb:Array Value)(encs:α→Array Value)(D:α→World→Prop)(Nd:Nat→Prop)(S:List α→Prop)(N:Nat)(w:World):Prop:=
 ∀(l:Nat) (J:List α→World→Prop) (Fr:World→Nat→Prop) (W:World),Below w.heap.size w W→Body W.heap.size J Fr→(∀pre A k,J pre A→Ty A k→Fr A k)→(∀k,Nd k→Fr W k)→
  (∀pre x W1,J pre W1→D x W1→pre.length < N→YieldAt Fence.wide (n - 1) P l (encs x) W1 fun e W'=>e=.returned (.bool true)∧J (pre++[x]) W'∧Kf Fr W1 W')→
  J [] W→Calls P g (#[.func (.yield l) #[] #[]]++lb) W fun e W'=>(∃v,e=.returned v)∧(∃xs,S xs∧J xs W')∧Kf Fr W W'
section
variable {n:Nat}{P:Program}
theorem xA{α:Type}{Ty:World→Nat→Prop}{g:Operand}{ps:Array Tmp}{assign body:Code}{Q:Exit→Act→World→Prop}{a:Act}{w:World}
 (h1:1≤n) {gf:Nat} {lb:Array Value} (hg:a.eval g=.func (.func gf) #[] lb) (eg:∀args w,(callFunc gf args).run P w=.ok (.enter gf args) w)
 {encs:α→Array Value} {D:α→World→Prop} {Nd:Nat→Prop} {S:List α→Prop} {N:Nat} {w0:World} (au:SeqT Ty (n - 1) P gf lb encs D Nd S N w0) (aA:Below w0.heap.size w0 w) (aF:∀x,(encs x).size=ps.size)
 (I:List α→World→Prop) (Fr:World→Nat→Prop) (hI:Body w.heap.size I Fr) (hTy:∀pre A k,I pre A→Ty A k→Fr A k) (hN:∀k,Nd k→Fr w k) (h0:I [] w) (Ax:α→Act→World→Prop) (hAx:∀x a',OwnFrom w.heap.size (fun(_:Unit) W=>Ax x a' W))
 (hassign:∀(l:Nat) (pre:List α) (x:α) (W:World) (K:Act→World→Prop),I pre W→D x W→w.heap.size≤W.heap.size→(∀a' W',Below W.heap.size W W'→Ax x a' W'→K a' W')→
   assign.wpIn (Fence.wide.inRound l) (n - 1 - 1) P (Exit.then K (fun _ _ _=>False)) {tmps:=(ps.zip (encs x)).foldl (fun t (p,v)=>t.setIfInBounds p v) a.tmps,defers:=[]} W)
 (hbody:∀(l:Nat) (pre:List α) (x:α) (a':Act) (W:World),w.heap.size≤l→(∃r,W.heap[l]? =some (.loop r))→I pre W→Ax x a' W→pre.length < N→w.heap.size≤W.heap.size→
   body.wpIn (Fence.wide.inRound l) (n - 1 - 1) P (fun e _ W'=>e=.normal∧I (pre++[x]) W'∧Kf Fr W W') a' W)
 (hdone:∀(D:Nat) (xs:List α) (W:World),w.heap.size≤D→S xs→I xs W→Kf Fr w W→W.heap[D]? =some (.deferred (some []))→Fr W D→Q .normal {a with defers:={target:=.collected D,args:= #[]}::a.defers} W):
 (Code.rangeFunc g ps assign body).wpIn Fence.wide n P Q a w:=by
 refine wpIn_rangeFunc fun fn aG=>?_;rw[show Fence.wide.round=none from rfl];obtain⟨rc,ae⟩:∃rc:LoopState→Option Code→Loop,rc=fun st pe=>{state:=st,pending:=pe,fn,tmps:=a.tmps,params:=ps,assign,body,defers:=w.heap.size}:=⟨_,rfl⟩;obtain⟨W1,ai⟩:=zg ((w.alloc (.deferred (some []))).alloc (.loop (rc .ready none)))
 have L1:W1.heap[w.heap.size+1]? =some (.loop (rc .ready none)):=by
  rw[←ai];have :=World.alloc_heap_new (w.alloc (.deferred (some []))) (.loop (rc .ready none));rwa[Xi]at this
 have D1:W1.heap[w.heap.size]? =some (.deferred (some [])):=by
  rw[←ai];exact(Below.heap_alloc _ _ _ (by simp)).trans (World.alloc_heap_new w _)
 have Z1:W1.heap.size=w.heap.size+2:=(by rw[←ai];simp);have b1:Below w.heap.size w W1:=(by rw[←ai];exact((Yb _ w).alloc (Ya _) _).alloc (by simp) _);have F1:∀k,w.heap.size≤k→Fr W1 k:=fun k hk=>hI.grow _ _ _ _ none h0 (hI.fresh _ _ _ h0 hk) (bD b1) (fun r e=>by cases e)
 refine⟨w.heap.size+1,[{target:=.collected w.heap.size,args:= #[]}],W1,{target:=.fn (.func gf) lb,args:= #[.func (.yield (w.heap.size+1)) #[] #[]]},W1,gf,
  #[.func (.yield (w.heap.size+1)) #[] #[]]++lb,W1,by rw[←ai,ae];exact run_enterLoop_outer _ _ _ _ _,by simp only[resolve,hg];simp[go_sem],?_,by simp[invoke,go_sem,eg],fun _=>h1,?_⟩
 · intro f' hf';trivial
 have HJ:Body W1.heap.size (fun pre W=>I pre W∧w.heap.size≤W.heap.size∧W.heap[w.heap.size+1]? =some (.loop (rc .ready none))∧W.heap[w.heap.size]? =some (.deferred (some []))∧Fr W w.heap.size∧Fr W (w.heap.size+1)) Fr:=by
  refine⟨fun s A C row hs ag hr=>?_,fun s A k hs hk=>hI.fresh s A k hs.1 hk,fun s A C k row hs hf ag hr=>hI.grow s A C k row hs.1 hf ag (fun r e=>⟨by have :=(hr r e).1;omega,(hr r e).2⟩)⟩;have hr':kJ w.heap.size A row:=fun r e=>⟨by have :=(hr r e).1;omega,(hr r e).2⟩;have keep:∀k o,k < w.heap.size+2→A.heap[k]? =some o→C.heap[k]? =some o:=fun k o hk ho=>(ag.block k (Yi.1 ho).1 (fun e=>by have :=(hr k e.symm).1;omega)).trans ho;exact⟨hI.own s A C row hs.1 ag hr',Yc hs.2.1 ag.size,keep _ _ (by omega) hs.2.2.1,keep _ _ (by omega) hs.2.2.2.1,hI.grow s A C _ row hs.1 hs.2.2.2.2.1 ag hr',hI.grow s A C _ row hs.1 hs.2.2.2.2.2 ag hr'⟩
 refine(callsIn_wide.2 (au (w.heap.size+1) _ Fr W1 (aA.trans (b1.mono aA.size)) HJ (fun pre A k hj ht=>hTy pre A k hj.1 ht) (fun k hk=>hI.grow _ _ _ _ none h0 (hN k hk) (bD b1) (fun r e=>by cases e)) ?_
  ⟨by rw[←ai];exact hI.own.alloc _ (hI.own.alloc _ h0),b1.size,L1,D1,F1 _ (Ya _),F1 _ (Nat.le_succ _)⟩)).mono ?_
 · rintro pre x W ⟨hi,aB,hl,hk,ax,aH⟩ hD hlen;have hy:=run_yield (P:=P) (args:=encs x) hl (by rw[ae];exact aF x);rw[ae]at hy;refine⟨fn,_,assign,body,hy,roundIn_of_wpIn aG (hassign _ pre x W _ hi hD aB ?_)⟩;clear hy;intro a' Wa af aI;have ak:Wa.heap[w.heap.size+1]? =some (.loop (rc .ready none)):=(af.block _ (Yi.1 hl).1).trans hl;have aJ:Wa.heap[w.heap.size]? =some (.deferred (some [])):=(af.block _ (Yi.1 hk).1).trans hk;have aK:=(Yi.1 ak).1;have aN:=hI.below hi af;refine⟨_,run_beginRound ak (by rw[ae]),?_⟩;obtain⟨Wb,ah⟩:=zg (Wa.putObj (w.heap.size+1) (.loop {rc .ready none with state:=.busy}));have l2:Wb.heap[w.heap.size+1]? =some (.loop {rc .ready none with state:=.busy}):=(by rw[←ah];exact World.putObj_heap_same aK);have k2:Wb.heap[w.heap.size]? =some (.deferred (some [])):=by rw[←ah];exact(World.putObj_heap_other (by omega)).trans aJ
   obtain⟨i2,f2⟩:=hI.put aN (.loop {rc .ready none with state:=.busy}) (by omega) ak rfl;rw[ah]at i2 f2;have z2:Wb.heap.size=Wa.heap.size:=(by rw[←ah];simp[World.putObj]);have ka:=hI.kf hi af;have x2:Ax x a' Wb:=(by rw[←ah];exact(hAx x a').putObj (s:=()) _ aI (by omega) ak rfl);rw[show({rc .ready none with state:=.busy}:Loop)={rc .ready none with state:=.busy}from rfl,ah];refine wpIn_mono (hbody _ pre x a' Wb (by omega) ⟨_,l2⟩ i2 x2 hlen (by have :=af.size;omega)) ?_;rintro e a3 W3 ⟨rfl,aO,aj⟩;have aP:=f2 _ (ka.same _ (by have :=(Yi.1 hk).1;omega) ax).2;have aQ:=f2 _ (ka.same _ (Yi.1 hl).1 aH).2;obtain⟨el,fl⟩:=aj.same _ (by omega) aQ;obtain⟨ek,fk⟩:=aj.same _ (by omega) aP;have l3:=el.trans l2;have k3:=ek.trans k2;have hr:=run_endRound (P:=P) none l3;rw[ae]at hr l3;obtain⟨i4,f4⟩:=hI.put aO (.loop (rc .ready none)) (by omega) l3 rfl
   have er:∀W:World,W.putObj (w.heap.size+1) (.loop (rc .ready none))=W.putObj (w.heap.size+1) (.loop {state:=.ready,pending:=none,fn,tmps:=a.tmps,params:=ps,assign,body,defers:=w.heap.size}):=fun W=>(by rw[ae]);rw[er]at i4 f4;refine⟨_,_,hr,rfl,⟨i4,?_,?_,(World.putObj_heap_other (by omega)).trans k3,f4 _ fk,f4 _ fl⟩,?_,?_⟩
   · have :=aj.size;have :=af.size;simp[World.putObj];omega
   · rw[ae];exact World.putObj_heap_same (Yi.1 l3).1
   · have :=aj.size;have :=af.size;simp[World.putObj];omega
   · intro k ay az;obtain⟨e1,g1⟩:=ka.same k ay az;have aS:k < Wb.heap.size:=(by have :=af.size;omega);obtain⟨e3,g3⟩:=aj.same k aS (f2 k g1);refine⟨?_,f4 k g3⟩;by_cases aT:k=w.heap.size+1
     · subst aT;refine(World.putObj_heap_same (Yi.1 l3).1).trans ?_;rw[hl,ae];rfl
     · have e2:Wb.heap[k]? =Wa.heap[k]? :=(by rw[←ah];exact World.putObj_heap_other (by omega));exact(World.putObj_heap_other (by omega)).trans (e3.trans (e2.trans e1))
 · rintro e W2 ⟨⟨v,rfl⟩,⟨xs,hS,hi,aB,hl,hk,ax,_⟩,aC⟩;have PU:=fun o'=>hI.put hi o' (by omega) hl rfl;have he:=run_endLoop (P:=P) hl (by rw[ae];simp);rw[ae]at he hl;refine⟨none,_,he,hdone _ xs _ (Ya _) hS (PU _).1 ⟨by have :=aC.size;simp[World.putObj];omega,fun k ay az=>?_⟩ ((World.putObj_heap_other (by omega)).trans hk) ((PU _).2 _ ax)⟩;obtain⟨e2,g2⟩:=aC.same k (by omega) (hI.grow _ _ _ _ none h0 az (bD b1) (fun r e=>by cases e));exact⟨(World.putObj_heap_other (by omega)).trans (e2.trans (b1.block k ay)),(PU _).2 k g2⟩
end
end Go.Proofs.YtfddbnmfllgifaaGreatDoor
