/- Part of TopMembers. -/
import Derived.Test.YtfddbnmfllgifaaGreatDoorA31
import Derived.Test.YtfddbnmfllgifaaGreatDoorA33
import Derived.Test.YtfddbnmfllgifaaGreatDoorA37
import Derived.Shelf.SortM.Plain
import Derived.Shelf.SortM.SortNone
set_option linter.unusedVariables false
set_option linter.unusedSimpArgs false
set_option maxHeartbeats 64000000
set_option maxRecDepth 100000
namespace Go.Proofs.YtfddbnmfllgifaaGreatDoor
open Go.RowKit Go.Shelf Go.Sort Top
theorem ints_at(l:List Int){t:Nat}(h:t < l.length):(bJ 1 bC l)[t]? =some (.int .i64 (l.toArray[t]!)):=by
 have hg:=dE (0:Int) (s:=1) (c:=bC) l t 0 h (by decide);rw[Nat.one_mul,Nat.add_zero]at hg;rw[hg];unfold bC;congr 2;simp[h]
theorem yx{w:World}{base:Nat}{v:Value}{l:List Int}(af:ax 3 1 bC w base v l)(hl:l.length≤1000000):
 Calls Tryz.prog 207 #[v] w fun e w'=>e=.returned (.tuple #[])∧ax 3 1 bC w' base v (iL l)∧ay w v w' v:=by
 obtain⟨hlen,h2⟩:=af;rcases h2 with⟨rfl,h0⟩ | ⟨b,cap,cur,rfl,hb,hg,hn,hmax,hsz,htk⟩
 · obtain rfl:l=[]:=Yz h0;have hA:=AnyM.slices_Sort_int_none EO none 0 w;refine(show Calls Tryz.prog 207 #[.slice none 0 0] w _ from hA).mono ?_;rintro e w' ⟨rfl,rfl⟩;exact⟨rfl,by rw[show iL []=[]from by simp[iL]];exact ax.nil _ _,ay.refl _ _⟩
 have ae:b < w.heap.size:=(Yi.1 hg).1;have ah:l.length≤cur.size:=by rw[hsz,Nat.mul_one];exact hn
 have hH:Holds (Value.int .i64) w b 0 l.toArray:=by
  intro j hj;have ag:j < l.length:=by simpa using hj
  have e1:cur.toList[j]? =some (.int .i64 (l.toArray[j]!)):=by
   have :=ints_at l ag;rw[←htk,Yy (by rw[Nat.mul_one];exact ag)]at this;exact this
  constructor
  · simp only[World.cell?,hg,Yl];rw[←Array.getElem?_toList];simpa using e1
  · simp[World.frozen?,hg]
 have hA:=AnyM.slices_Sort_int (P:=Tryz.prog) EO b 0 cap l w hH ae (by omega);refine(show Calls Tryz.prog 207 #[.slice (some ⟨b,0,none⟩) l.length cap] w _ from hA).mono ?_;rintro e w' ⟨rfl,n,os,rfl⟩;have hd:(iL l).length=l.length:=(fG l).length_eq
 have hg':(grow (Go.Sort.putRow (Value.int .i64) (Go.Sort.ahead w n) b 0 (l.mergeSort fun x y=>decide (x≤y)).toArray) os).heap[b]? =some (.cells (Go.Sort.putCells (Value.int .i64) 0 (iL l).toArray cur) 3 (0,0)):=by
  show((w.heap.modify b _)++os)[b]? =_;rw[Array.getElem?_append_left (by simpa using ae),Array.getElem?_modify,if_pos rfl,hg];rfl
 refine⟨rfl,⟨bI _,.inr ⟨b,cap,_,by rw[hd],hb,hg',by rw[hd];exact hn,hmax,by simp[putCells,hsz],?_⟩⟩,⟨rfl,rfl,rfl,?_,fun k hk ai=>?_⟩,.inl rfl⟩
 · apply List.ext_getElem?;intro t;rw[hd,Nat.mul_one];by_cases ht:t < l.length
   · have aj:t < cur.size:=Yg ht ah;have e4:(iL l).toArray.size=l.length:=(by simpa using hd);rw[Yy ht,ints_at _ (by rw[hd];exact ht),Array.getElem?_toList,putCells,Array.getElem?_mapIdx,Array.getElem?_eq_getElem aj];simp only[Option.map_some,Nat.zero_le,true_and,Yl,Nat.sub_zero,e4,ht,if_true]
   · rw[List.getElem?_eq_none (by rw[Yu];omega),List.getElem?_eq_none (by rw[bI,hd];omega)]
 · show w.heap.size≤((w.heap.modify b _)++os).size;simp
 · show((w.heap.modify b _)++os)[k]? =_;rw[Array.getElem?_append_left (by simpa using hk),Array.getElem?_modify,if_neg (fun e=>ai (by rw[←e];rfl))]
instance :Inhabited Me:=⟨me0⟩
instance :Inhabited Chg:=⟨ch0⟩
theorem swoZ{α:Type}(f:α→Int):SWO (ltOf fun x y=>gu (f x) (f y)) where
 irrefl x:=by unfold ltOf;rw[uS];simp
 trans x y z h1 h2:=by unfold ltOf at *;rw[uS]at *;simp at *;omega
 ntrans x y z h1 h2:=by unfold ltOf at *;rw[uS]at *;simp at *;omega
theorem JB{w:World}{base:Nat}{v:Value}{l:List Me}(h:ax 53 3 meC w base v l)(hl:l.length≤1000000):
 Calls Tryz.prog 130 #[v,.func (.func 131) #[] #[]] w fun e w'=>e=.returned (.tuple #[])∧∃l':List Me,l'.Perm l∧ax 53 3 meC w' base v l'∧ay w v w' v:=
 pV (s:=3) (c:=meC) Nh Tryz.isAgg53 Tryz.sizeOf53 (by decide) (fun u j=>rfl) (fun x y=>gu x.d y.d) (swoZ _) 131 #[] (enters_of Tryz.func131 (by kernel_rfl) rfl) h hl (fun b W x y _ _=>lessMe x y W)
theorem Io{w:World}{base:Nat}{v:Value}{l:List Chg}(h:ax 75 5 chC w base v l)(hl:l.length≤1000000):
 Calls Tryz.prog 184 #[v,.func (.func 185) #[] #[]] w fun e w'=>e=.returned (.tuple #[])∧∃l':List Chg,l'.Perm l∧ax 75 5 chC w' base v l'∧ay w v w' v:=
 pV (s:=5) (c:=chC) PR Tryz.isAgg75 Tryz.sizeOf75 (by decide) (fun u j=>rfl) (fun x y=>gu x.d y.d) (swoZ _) 185 #[] (enters_of Tryz.func185 (by kernel_rfl) rfl) h hl (fun b W x y _ _=>lessCh x y W)
end Go.Proofs.YtfddbnmfllgifaaGreatDoor
namespace Go.Proofs.YtfddbnmfllgifaaGreatDoor
open Go.RowKit Cod Top
theorem YI:∀{l m:List Int},l.Pairwise (· ≤ ·)→m.Pairwise (· ≤ ·)→l.Perm m→l=m
 | [],m,_,_,h=>(List.Perm.nil_eq h)
 | a::l,[],_,_,h=>absurd h.length_eq (by simp)
 | a::l,b::m,h1,h2,h=>by
   rw[List.pairwise_cons]at h1 h2
   have e:a=b:=by
    have ha:a∈b::m:=h.mem_iff.1 (by simp);have hb:b∈a::l:=h.mem_iff.2 (by simp);rcases List.mem_cons.1 ha with e | ha
    · exact e
    rcases List.mem_cons.1 hb with e | hb
    · exact e.symm
    have :=h1.1 b hb;have :=h2.1 a ha;omega
   subst e;rw[YI h1.2 h2.2 h.cons_inv]
theorem Ef(l:List Int):(iL l).Pairwise (· ≤ ·):=by
 have h:=List.pairwise_mergeSort (le:=fun a b:Int=>decide (a≤b)) (fun a b c h1 h2=>by simp at *;omega) (fun a b=>by simp;omega) l;exact h.imp fun h=>by simpa using h
theorem xE{l m:List Int}(h:l.Perm m):iL l=iL m:=YI (Ef l) (Ef m) (((fG l).trans h).trans (fG m).symm)
theorem sD{gf:Nat}{lb:Array Value}(eg:∀args w,(callFunc gf args).run Tryz.prog w=.ok (.enter gf args) w){Nd:Nat→Prop}{S:List Int→Prop}{N:Nat}(w:World)(hq:tX 4 Tryz.prog gf lb Pq (fun _ _=>True) Nd S N w)(hd:∀k,Nd k→k < w.heap.size)(hN:N≤1000000)(hS:∀xs,S xs→xs.length≤1000000):
 Calls Tryz.prog 218 #[.func (.func gf) #[] lb] w fun e w'=>∃u xs,e=.returned u∧S xs∧ax 3 1 bC w' w.heap.size u (iL xs)∧Below w.heap.size w w':=by
 have C:=zh (yH eg w hq hd hN);have HS:=zh hS;clear hq hd hN eg hS;go_in;go_wp2_with fail;refine C.mono ?_;rintro e w1 ⟨v,l,rfl,h1,h2,h3⟩;have H1:=zh h1;have H2:=zh h2;have H3:=zh h3;have S1:=zh (yx h2 (HS.o _ h1));clear h1 h2 h3 C;go_wp2_with fail;refine S1.mono ?_;rintro e w2 ⟨rfl,o2,s2⟩;have O2:=zh o2;have B2:=zh (H3.trans (aO s2 H3.size (fun k hk=>(H2.lt k hk).1)));clear o2 s2 S1;go_wp2_with fail;go_ret;exact⟨v,l,rfl,H1.o,O2.o,B2.o⟩
theorem KM.At.app{α β:Type}{enc:α→Value}{G:α→Prop}{w w':World}{b:Nat}{m:List (α×Value)}(h:KM.At enc G w b m){T:TypeId}{s:Nat}{c:β→Nat→Value}{base:Nat}{v v':Value}{l:List β}(o:ax T s c w base v l)(st:ay w v w' v'):KM.At enc G w' b m:=by
 refine h.of_block (st.block h.lt (fun e=>?_));obtain⟨_,es,cl,hb,_⟩:=h;have :=wG o b _ e hb;cases this
theorem FZ(m:Tr):(oJ m).length=m.length:=by unfold oJ;simp
theorem rD(b:Nat)(m:Tr)(w:World)(hm:NdT w b m)(hn:m.length≤100000):
 Calls Tryz.prog 190 #[.map (some b)] w fun e w'=>∃hd,e=.returned (trA hd)∧eY w' hd (gW m)∧Below w.heap.size w w':=by
 have M0:=zh hm;have HN:=zh hn;clear hm hn;go_in;have B0:=zh (Yb w.heap.size w);go_upto_region 1 with fail;obtain⟨w1,ak,b1,z1,Z1⟩:=zQ w (.cells #[.slice none 0 0] 49) 49 1 (fun _=>.slice none 0 0) rfl;rw[ak];(try rw[z1]);have B1:=zD B0 b1;have M1:=zh (M0.below b1);clear b1 ak z1 B0 M0;have C:=zh (fun W=>yE (some b) W);go_wp2_with fail;refine(C.o _).mono ?_;rintro e w2 ⟨rfl,rfl⟩;clear C;have Y2:Hid (ag (w1.alloc (.cells #[.map (some b)] 252)) w1.heap.size 252 1 (fun _=>.map (some b))):=zh (ag.new w1 252 1 (fun _=>.map (some b)));have b2:Below w1.heap.size w1 (w1.alloc (.cells #[.map (some b)] 252)):=(Yb _ _).alloc (Ya _) _;obtain⟨w2,au⟩:=zg (w1.alloc (.cells #[.map (some b)] 252));rw[au]at b2 Y2 ⊢;have M2:=zh (KM.At.below M1.o b2);have Z2:=zh (Z1.below b2);have B2:=zD B1 b2;clear au b2 M1 Z1 B1
 have SD:=zh (sD (gf:=256) (enters_of Tryz.func256 (by kernel_rfl) rfl) w2 (OY 4 w1.heap.size b (oJ m) w2 Y2.o M2.o) (fun k e=>by subst e;exact KM.At.lt M2.o) (by rw[FZ];have :=HN.o;omega) (fun xs hx=>by rw[hx.length_eq,Yk,FZ];have :=HN.o;omega));clear Y2;go_wp2_with fail;refine SD.mono ?_;rintro e w3 ⟨u,xs,rfl,hx,ho,b3⟩;have M3:=zh (KM.At.below M2.o b3);have Z3:=zh (Z2.below b3);have B3:=zD B2 b3;have ES:Hid (iL xs=iL (m.map (·.1))):=zh (xE (by rw[←yl];exact hx));rw[ES.o]at ho;obtain⟨ks,af⟩:=zg (iL (m.map (·.1)));have TL:Hid (gW m=ks.map fun k=>(k,(Top.look m k).getD 0)):=zh (by unfold gW;rw[af]);have LK:Hid (ks.length≤100000):=zh (by rw[←af,(fG _).length_eq,Yk];exact HN.o);rw[af]at ho;have O3:=zh (ho.mono B2.size);obtain⟨ua,uc,rfl⟩:=ho.slice;clear ho af b3 hx SD M2 Z2 B2 ES;obtain⟨F,hF⟩:=zg ((fun k=>(k,(Top.look m k).getD 0)))
 have HF:Hid (∀k,F k=(k,(Top.look m k).getD 0)):=zh (fun k=>by rw[←hF]);rw[hF]at TL;have N3:Hid (ax 302 2 ndC w3 w.heap.size (.slice none 0 0) ((ks.take 0).map F)):=zh (ax.nil _ _);obtain⟨n,ai⟩:=zg ks.length;have HL:=zh ai;rw[ai]at LK O3;rw[ai];clear ai hF;go_wp2_with fail;go_loopg [9] n (fun g s9 wx=>∃(k:Nat) (sl:Value),k+g=n∧s9=.int .i64 (k:Int)∧Hid (ag wx w.heap.size 49 1 (fun _=>sl))∧Hid (ax 302 2 ndC wx w.heap.size sl ((ks.take k).map F))∧Hid (ax 3 1 bC wx w.heap.size (.slice ua n uc) ks)∧Hid (NdT wx b m)∧Hid (Below w.heap.size w wx));case atStart=>exact⟨0,_,by omega,rfl,Z3,N3,O3,M3,B3⟩
 case round=>
  clear Z3 N3 O3 M3 B3;obtain⟨k,sl,hk,rfl,hZ,hN,hO,hM,hB⟩:=hrel;obtain⟨w4,rfl⟩:=zG wr;have q0:=Ye k;by_cases ae:k < n
  · obtain⟨d0,d1,-⟩:=zl ae;have hs:aN 1 w4 (.slice ua n uc) n (fun i=>bC (ks.getD i 0)):=(by have h:=hO.at' (0:Int) (by decide) (by decide) (by have :=LK.o;have :=HL.o;omega);rwa[HL.o]at h);obtain⟨bb,off,rfl,aj,hb,hc⟩:=aN.aI (s:=1) (n:=n) (a:=ua) (k:=uc) (c:=fun i=>bC (ks.getD i 0)) hs ae;have ay:=zh ae;have lk:w4.cell? ⟨bb,off+k,none⟩=some (.int .i64 (ks.getD k 0)):=(by have h:=hc k ae 0 (by decide);rwa[Nat.one_mul]at h);have TK:Hid ((ks.take (k+1)).map F=(ks.take k).map F++[F (ks.getD k 0)]):=zh (by rw[aH 0 ks (show k < ks.length by rw[HL.o];exact ae),Yn];rfl);obtain⟨x,hx⟩:=zg (ks.getD k 0);rw[hx]at lk TK;have LN:Hid (((ks.take k).map F).length+1≤1000000):=zh (by rw[Yk,Yu];have :=LK.o;omega);obtain⟨ts,az⟩:=zg ((ks.take k).map F);rw[az]at hN TK LN;have aC:=zw  ((k:Int)+1) (by have :=LK.o;omega);obtain⟨sa,sc,rfl⟩:=hN.slice;have x0:=hZ.cell (i:=0) (by decide);clear hc aj hb hx ae hs az
    go_upto_region 4 with fail;clear lk;go_wp2_with(with_reducible refine zS 18 ?_);refine zh (KM.dJ kyI rfl 252 3 (.tmp 16) (.tmp 17) false rfl x trivial rfl rfl hM.o Tryz.underlying252 kY ?_);have ev:(KM.get (oJ m) x).getD (.int .i64 0)=.int .i64 ((Top.look m x).getD 0):=(by rw[jL];cases Top.look m x<;>rfl);rw[if_neg Bool.false_ne_true,ev];have FX:=zh (HF.o x);obtain⟨z,hz⟩:=zg ((Top.look m x).getD 0);rw[hz]at FX;rw[hz];clear ev hz;go_wp2_with(with_reducible refine zS 21 ?_);refine zh ?_;have b5:Below w4.heap.size w4 (w4.alloc (.cells #[.int .i64 x,.int .i64 z] 302)):=(Yb _ _).alloc (Ya _) _;have R5:Hid (ag (w4.alloc (.cells #[.int .i64 x,.int .i64 z] 302)) w4.heap.size 302 2 (ndC (x,z))):=zh (ag.new w4 302 2 (ndC (x,z)));obtain⟨w5,aA⟩:=zg (w4.alloc (.cells #[.int .i64 x,.int .i64 z] 302));rw[aA]at b5 R5 ⊢;have N5:=zh (hN.below b5);have O5:=zh (hO.below b5)
    have M5:=zh (KM.At.below hM.o b5);have Z5:=zh (hZ.below b5);have B5:=zD hB b5;clear aA b5 hN hO hM hZ hB
    refine bH rfl (.tmp 14) (.tmp 20) Rt Tryz.underlying47 rfl (by decide) (by decide) (fun u j=>rfl) nd0 rfl w.heap.size (.slice sa ts.length sc) ts rfl N5.o w4.heap.size 1 [(x,z)] rfl (fun i hi j hj=>by
     obtain rfl:i=0:=(by simp at hi;exact hi);rw[Nat.mul_zero,Yl]
     exact R5.cell hj) (by have h1:=LN.o;show ts.length+1≤1000000;omega) B5.size ?_
    intro v6 w6 N6 s6;have M6:=zh (M5.app N5.o s6.o);have O6:=zh (ax.beside O5.o N5.o (by decide) s6.o);have Z6:=zh (s6.row Z5.o (fun e=>bM (by decide) N5.o Z5.o _ e rfl));have B6:=zh (B5.trans (aO s6.o B5.size (fun k hk=>(N5.lt k hk).1)));obtain⟨va,vc,rfl⟩:=N6.slice;have x1:=Z6.cell (i:=0) (by decide);have f1:=Z6.frozen 0;clear N5 O5 M5 Z5 B5 R5 s6 x0;rw[show(ts++[(x,z)]).length=ts.length+1 from by simp]at N6 ⊢;rw[←FX.o,←TK.o]at N6;go_wp2_with fail;have ob:=(aG.refl w.heap.size w6).setCell (p:=⟨w.heap.size,0,none⟩) (.inl rfl) (.slice va (ts.length+1) vc);have Z7:Hid (ag (w6.setCell ⟨w.heap.size,0,none⟩ (.slice va (ts.length+1) vc)) w.heap.size 49 1 (fun _=>.slice va (ts.length+1) vc)):=zh ((Z6.set 0 _).congr (fun i hi=>by match i,hi with | 0,_=>rfl));have N7:=zh (N6.aB Z6.o (by decide) ob);have O7:=zh (O6.aB Z6.o (by decide) ob)
    have M7:=zh (KM.At.only M6.o ob (fun e=>by
     obtain⟨_,es,cl,hb,_⟩:=M6.o;have h2:w6.heap[w.heap.size]? =some (.cells _ _ _):=Z6.o;rw[←e,hb]at h2
     cases h2))
    have B7:=zh (B6.trans (ob.below (Ya _) B6.size));clear ob Z6 N6 O6 M6 B6 x1 f1;go_roundg(n - (k+1));case measure=>have :=ay.o;omega
    case rel=>
     go_light;exact⟨k+1,_,by have :=ay.o;omega,by go_num,Z7,N7,O7,M7,B7⟩
  · obtain⟨d0,d1⟩:=zk ae
    have N4:Hid (ax 302 2 ndC w4 w.heap.size sl (gW m)):=zh (by
     have h:=hN.o;rw[Yq (by rw[HL.o];omega),←TL.o]at h
     exact h)
    obtain⟨hd,rfl,_,hT⟩:=eY.hd N4.o;have T4:=zh hT;have Z4:=hZ;have B4:=hB;clear hN hO hM hZ hB ae hk q0 N4 hT;go_wp2_with(with_reducible refine zS 24 ?_);refine zh (zL Z4 rfl YP ?_);go_wp2_with(with_reducible refine zn ?_);refine zh (zV Z4 rfl _ rfl YP (fun j _=>rfl) ?_);intro w5 Z5 O5;have T5:=zh (ax.aB T4.o Z4.o (by decide) O5.o);have B5:=zh (B4.trans (O5.below (Ya _) B4.size));clear T4 Z4 O5 B4;go_wp2_with fail;refine bodyPost_ret (v:=.agg (ah 1 (fun _=>hd.v))) (by exact zB Z5 rfl rfl YP) rfl ?_;exact⟨hd,rfl,T5.o,B5.o⟩
def gQ(t:Tr):List Int:=(t.filter fun x=>decide (512≤x.1)).map fun x=>x.1 - 512
theorem Ja(t:Tr)(x:Int×Int):gQ (t++[x])=gQ t++if 512≤x.1 then [x.1 - 512]else []:=by
 unfold gQ;rw[List.filter_append,Yn];by_cases h:512≤x.1<;>simp[h]
theorem yN(t:Tr):(gQ t).length≤t.length:=by unfold gQ;rw[Yk];exact List.length_filter_le _ _
theorem Px{t:Tr}{d:Int}:d∈gQ t↔0≤d∧∃y,(512+d,y)∈t:=by
 unfold gQ;rw[Yo];constructor
 · rintro⟨⟨a,y⟩,h1,h2⟩;rw[List.mem_filter,decide_eq_true_eq]at h1;simp only at h1 h2;exact⟨by omega,y,by rw[show 512+d=a by omega];exact h1.1⟩
 · rintro⟨h0,y,h⟩;exact⟨(512+d,y),List.mem_filter.2 ⟨h,by simp;omega⟩,by simp only;omega⟩
theorem qJ(t:Tr)(h:Hd)(w:World)(ht:eY w h t)(hw:TrW t):
 Calls Tryz.prog 175 #[trA h] w fun e w'=>∃u,∃l':List Int,e=.returned u∧ax 3 1 bC w' w.heap.size u l'∧(∀x,x∈l'↔x∈gQ t)∧l'.length≤1023∧Below w.heap.size w w':=by
 obtain⟨la,ln,lc⟩:=h
 have af:ln=t.length:=by
  obtain⟨a,k,e⟩:=ax.slice ht;cases e;rfl
 subst af;have HW:=zh hw;have H0:=zh (ht.at2 (by have :=hw.len;omega));obtain⟨n,af⟩:=zg t.length;have HN:=zh af;have QN:=zh (show n≤1023 by rw[←af];exact hw.len);rw[af]at H0 ⊢;clear ht hw af;go_in;have B0:=zh (Yb w.heap.size w);go_upto_region 1 with fail;obtain⟨w1,au,b1,z1,Z1⟩:=zQ w (.cells #[.slice la n lc] 49) 49 1 (fun _=>.slice la n lc) rfl;rw[au];(try rw[z1]);have B1:=zD B0 b1;clear b1 au z1 B0;have x0:w1.cell? ⟨w.heap.size,0,none⟩=some (.slice la n lc):=Z1.cell (i:=0) (by decide);have O1:Hid (ax 3 1 bC w1 w.heap.size (.slice none 0 0) (gQ (t.take 0))):=zh (ax.nil _ _);go_wp2_with fail;clear x0 Z1;go_loopg [2,8] n (fun g s2 s8 wx=>∃k:Nat,k+g=n∧s8=.int .i64 (k:Int)∧Hid (ax 3 1 bC wx w.heap.size s2 (gQ (t.take k)))∧Hid (Below w.heap.size w wx));case atStart=>exact⟨0,by omega,rfl,O1,B1⟩
 case round=>
  clear O1 B1;obtain⟨k,hk,rfl,hO,hB⟩:=hrel;obtain⟨w1,rfl⟩:=zG wr;have q0:=Ye k;by_cases ae:k < n
  · obtain⟨d0,d1,-⟩:=zl ae;obtain⟨b,off,rfl,aj,hb,hc⟩:=aN.aI (s:=2) (n:=n) (a:=la) (k:=lc) (c:=fun i=>ndC (t.getD i nd0)) (H0.below hB.o) ae;have ai:=zh ae;have ak:=zh (fun j hj=>hc k ae j hj);have TK:=zh (aH nd0 t (show k < t.length by rw[HN.o];exact ae));have NW:=zh (HW.n _ (aK (d:=nd0) (show k < t.length by rw[HN.o];exact ae)));obtain⟨x,hx⟩:=zg (t.getD k nd0);rw[hx]at ak TK NW;have aB:=zw  ((k:Int)+1) (by have :=QN.o;omega);have ay:Hid ((gQ (t.take k)).length+1≤1000000):=zh (by have :=yN (t.take k);rw[Yu]at this;have :=QN.o;omega);obtain⟨sa,sc,rfl⟩:=hO.slice;clear hc aj hb hx ae;go_upto_region 3 with fail;go_wp2_with(with_reducible refine zS 11 ?_);refine zh (zE b (off+k*2) rfl Zh off k (by rw[Ym]) (ndC x) ak.o ?_);have B1:=hB;have O1:=hO;clear hB hO ak d0 d1;have Zr:=zh (ag.new w1 302 2 (ndC nd0))
    go_upto_region 4 with((with_reducible refine zN ?_);refine zV Zr rfl (ndC x) rfl Zh (fun _ _=>rfl) ?_;intro w2 X2 o2);have b2:Below w1.heap.size w1 w2:=zO o2;have B2:=zD B1 b2;have O2:=zh (O1.below b2);clear b2 o2 Zr B1 O1;have x0:w2.cell? ⟨w1.heap.size,0,none⟩=some (.int .i64 x.1):=X2.cell (i:=0) (by decide);obtain⟨ds,ah⟩:=zg (gQ (t.take k));have DS:Hid (gQ (t.take (k+1))=ds++if 512≤x.1 then [x.1 - 512]else []):=zh (by rw[TK.o,Ja,ah]);rw[ah]at O2 ay;rw[ah];by_cases h5:512≤x.1
    · have d2:decide (512≤x.1)=true:=zt h5;have d3:decide (x.1≤1023)=true:=zt NW.2.1;have aA:=zw  (x.1 - 512) (by have :=NW.2.1;omega);have DT:Hid (gQ (t.take (k+1))=ds++[x.1 - 512]):=zh (by rw[DS.o,if_pos h5]);clear h5 DS ah;go_wp2_with(with_reducible refine zS 25 ?_);refine zh ?_;have b3:Below w2.heap.size w2 (w2.alloc (.cells #[.int .i64 (x.1 - 512)] 3)):=(Yb _ _).alloc (Ya _) _;have R3:Hid (ag (w2.alloc (.cells #[.int .i64 (x.1 - 512)] 3)) w2.heap.size 3 1 (bC (x.1 - 512))):=zh (ag.new w2 3 1 (bC (x.1 - 512)));obtain⟨w3,az⟩:=zg (w2.alloc (.cells #[.int .i64 (x.1 - 512)] 3));rw[az]at b3 R3 ⊢;have O3:=zh (O2.below b3);have B3:=zD B2 b3;clear az b3 O2 B2 X2 x0 d2 d3
      refine bH rfl (.tmp 20) (.tmp 24) wK Tryz.underlying40 rfl (by decide) (by decide) (fun u j=>rfl) (0:Int) rfl w.heap.size (.slice sa ds.length sc) ds rfl O3.o w2.heap.size 1 [x.1 - 512] rfl (fun i hi j hj=>by
       obtain rfl:i=0:=(by simp at hi;exact hi);rw[Nat.mul_zero,Yl]
       exact R3.cell hj) (by have h1:=ay.o;show ds.length+1≤1000000;omega) B3.size ?_
      intro v4 w4 O4 s4;have B4:=zh (B3.trans (aO s4.o B3.size (fun k hk=>(O3.lt k hk).1)));rw[←DT.o]at O4;clear s4 O3 B3 R3 DT aA;go_wp2_with fail;go_roundg(n - (k+1));case measure=>have :=ai.o;omega
      case rel=>
       go_light;exact⟨k+1,by have :=ai.o;omega,by go_num,O4,B4⟩
    · have d2:decide (512≤x.1)=false:=zT h5
      have O3:Hid (ax 3 1 bC w2 w.heap.size (.slice sa ds.length sc) (gQ (t.take (k+1)))):=zh (by
       rw[DS.o,if_neg h5,List.append_nil];exact O2.o)
      clear h5 DS ah O2 X2;go_wp2_with fail;go_roundg(n - (k+1));case measure=>have :=ai.o;omega
      case rel=>
       go_light;exact⟨k+1,by have :=ai.o;omega,by go_num,O3,B2⟩
  · obtain⟨d0,d1⟩:=zk ae;obtain⟨sa,sc,rfl⟩:=hO.slice;have O2:Hid (ax 3 1 bC w1 w.heap.size (.slice sa (gQ (t.take k)).length sc) (gQ t)):=zh (by have h:=hO.o;rwa[show t.take k=t from Yq (by rw[HN.o];omega)]at h ⊢);obtain⟨q,hq⟩:=zg ((gQ (t.take k)).length);rw[hq]at O2;rw[hq];have LD:Hid ((gQ t).length≤1023):=zh (by have :=yN t;have :=QN.o;have :=HN.o;omega);have S:=zh (yx O2.o (by have :=LD.o;omega));clear hO ae hk q0 hq;go_wp2_with fail;refine S.mono ?_;clear S;rintro e w2 ⟨rfl,o2,s2⟩;have B2:=zh (hB.trans (aO s2 hB.size (fun k hk=>(O2.lt k hk).1)));have LS:Hid ((iL (gQ t)).length≤1023):=zh (by rw[(fG _).length_eq];exact LD.o);have C:=zh (Eo (iL (gQ t)) w.heap.size _ w2 o2 (by have :=LS.o;omega));have O3:=zh o2;clear o2 s2 O2 hB;go_wp2_with fail;refine C.mono ?_;clear C;rintro e w3 ⟨u,l',rfl,o3,m3,n3,s3⟩;have O4:=zh o3;have M4:Hid (∀x,x∈l'↔x∈gQ t):=zh (fun x=>(m3 x).trans (fG _).mem_iff)
    have N4:=zh (Yc n3 LS.o);have B4:=zh (B2.trans (aO s3 B2.size (fun k hk=>(O3.lt k hk).1)));clear o3 m3 n3 s3 O3 B2;go_wp2_with fail;go_ret;exact⟨u,l',rfl,O4.o,M4.o,N4.o,B4.o⟩
def BM(w:World)(b:Nat)(U:Int→Bool):Prop:=∃m,NdM w b m∧∀k,KM.get m k=if U k then some (.bool true)else none
theorem BM.below{w w':World}{b:Nat}{U:Int→Bool}(h:BM w b U)(hb:Below w.heap.size w w'):BM w' b U:=by
 obtain⟨m,h1,h2⟩:=h;exact⟨m,KM.At.below h1 hb,h2⟩
theorem BM.lt{w:World}{b:Nat}{U:Int→Bool}(h:BM w b U):b < w.heap.size:=by obtain⟨m,h1,_⟩:=h;exact KM.At.lt h1
theorem BM.congr{w:World}{b:Nat}{U U':Int→Bool}(h:BM w b U)(he:∀k,U k=U' k):BM w b U':=by
 obtain⟨m,h1,h2⟩:=h;exact⟨m,h1,fun k=>by rw[←he];exact h2 k⟩
theorem pM(W:World):(zeroValue 4).run Tryz.prog W=.ok (.bool false) W:=by kernel_rfl
theorem BM.look{w:World}{b:Nat}{U:Int→Bool}(h:BM w b U)(k:Int):(Instr.lookup 325 (.map (some b)) (.int .i64 k) false).run Tryz.prog w=.ok (.bool (U k)) w:=by
 obtain⟨m,h1,h2⟩:=h;have :=KM.wP (P:=Tryz.prog) kyI 325 4 (k:=k) trivial h1 Tryz.underlying325 pM false;rw[if_neg Bool.false_ne_true,h2]at this;rw[show(.int .i64 k:Value)=encI k from rfl,this];cases U k<;>rfl
theorem BM.made(w:World):BM (w.alloc (.map #[] 0)) w.heap.size (fun _=>false):=⟨[],KM.At.made encI anyI w,fun k=>by rw[if_neg Bool.false_ne_true];rfl⟩
theorem jd{P:Program}(hP:P=Tryz.prog){w:World}{b:Nat}{U:Int→Bool}{ops:Array Oper}{rest:List Oper}{o:Oper}{a:Act}{Q:Exit→Act→World→Prop}(ae:o.guard=none)(x y z:Operand)(ho:o.op=.mapUpdate 325 x y z)(k:Int)(hx:a.eval x=.map (some b))(hy:a.eval y=.int .i64 k)(hv:a.eval z=.bool true)(h:BM w b U)
 (hn:∀w',Hid (BM w' b (fun j=>decide (j=k)||U j))→Hid (aG b w w')→wpList P ops Q rest (a.put o.dst undef) w'):wpList P ops Q (o::rest) a w:=by
 subst hP;obtain⟨m,h1,h2⟩:=h;refine KM.di kyI ae 325 4 x y z ho k trivial (.bool true) hx hy hv h1 Tryz.underlying325 (fun w' h3 h4=>hn w' ⟨_,h3.o,fun j=>?_⟩ h4);rw[KM.get_put,h2];by_cases e:j=k<;>simp[e]
theorem aN.dH{W W':World}{v:Value}{m b:Nat}{c:Nat→Nat→Value}{U:Int→Bool}(hs:aN 1 W v m c)(hM:BM W b U)(ob:aG b W W'):aN 1 W' v m c:=by
 rcases hs with h | ⟨bb,off,cap,h1,h2,h3,h4,h5,h6⟩
 · exact .inl h
 · have ae:bb≠b:=fun e=>by
    subst e;obtain⟨m,⟨_,es,cl,hb,_⟩,_⟩:=hM;have :=h6 0 h3 0 (by decide);simp[World.cell?,hb]at this
   exact .inr ⟨bb,off,cap,h1,h2,h3,h4,Yg h5 ob.size,fun i hi j hj=>(ob.cell (p:=⟨bb,off+1*i+j,none⟩) h5 ae).trans (h6 i hi j hj)⟩
def Ey(t:Tr)(z:Int):Bool:=(gQ t).any fun d=>(upL d).contains z
def okN(t:Tr)(i:Nat):Bool:=(decide (i=0)||decide ((t.getD (i - 1) nd0).1 < (t.getD i nd0).1))&&aU (t.getD i nd0).2&&Ey t (t.getD i nd0).1
def okT(t:Tr):Bool:=(List.range t.length).all (okN t)
theorem okT_at{t:Tr}{i:Nat}(h:i < t.length)(hk:okN t i=false):okT t=false:=by
 unfold okT;rw[List.all_eq_false];exact⟨i,List.mem_range.2 h,by rw[hk];simp⟩
theorem VB{t:Tr}(hf:∀i,i < t.length→okN t i=true):okT t=true:=by
 unfold okT;rw[List.all_eq_true];exact fun x hx=>hf x (List.mem_range.1 hx)
theorem VW{l l':List Int}(h:∀x,x∈l↔x∈l')(p:Int→Bool):l.any p=l'.any p:=by
 rw[Bool.eq_iff_iff,List.any_eq_true,List.any_eq_true];exact⟨fun⟨x,h1,h2⟩=>⟨x,(h x).1 h1,h2⟩,fun⟨x,h1,h2⟩=>⟨x,(h x).2 h1,h2⟩⟩
theorem Sl(d:Int):upL d=(512+d)::bW d:=by
 unfold upL bW;rw[show(10:Nat)=9+1 from rfl,List.range_succ_eq_map,Yw,List.map_map,iw];rfl
def mkU(l:List Int)(z:Int):Bool:=l.any fun d=>(upL d).contains z
theorem Tn(l:List Int)(d z:Int):mkU (l++[d]) z=(mkU l z||(upL d).contains z):=by unfold mkU;rw[List.any_append];simp
theorem oW(t:Tr)(h:Hd)(w:World)(ht:eY w h t)(hw:TrW t):
 Calls Tryz.prog 171 #[trA h] w (zr (.int .i64 (if okT t then 0 else 210)) w):=by
 have aV:=fun W=>run_makeMap_plain (w:=W) (P:=Tryz.prog) 325;obtain⟨la,ln,lc⟩:=h
 have ai:ln=t.length:=by
  obtain⟨a,k,e⟩:=ax.slice ht;cases e;rfl
 subst ai;have HW:=zh hw;have T0:=zh ht;have FT:Hid ((∀i,i < t.length→okN t i=true)→(if okT t then(0:Int)else 210)=0):=zh (fun h=>by rw[VB h,if_pos rfl]);have FF:Hid (∀i,i < t.length→okN t i=false→(if okT t then(0:Int)else 210)=210):=zh (fun i hi h=>by rw[okT_at hi h,if_neg Bool.false_ne_true]);obtain⟨R,hR⟩:=zg ((if okT t then(0:Int)else 210));rw[hR]at FT FF ⊢;obtain⟨n,ai⟩:=zg t.length;have HN:=zh ai;have QN:=zh (show n≤1023 by rw[←ai];exact hw.len);have H0:Hid (aN 2 w (.slice la n lc) n (fun i=>ndC (t.getD i nd0))):=zh (by have h:=ht.at2 (by have :=hw.len;omega);rwa[ai]at h);rw[ai]at FT FF T0 ⊢;have HT:=H0;clear ht hw ai hR;go_in;have B0:=zh (Yb w.heap.size w);go_upto_region 1 with fail;obtain⟨w1,aG,b1,z1,Z1⟩:=zQ w (.cells #[.slice la n lc] 49) 49 1 (fun _=>.slice la n lc) rfl;rw[aG];(try rw[z1]);have B1:=zD B0 b1;have T1:=zh (T0.below b1);clear b1 aG z1 B0 T0 H0;have LW:=zh B1.size
 go_upto_region 2 with fail;obtain⟨w2,ak⟩:=zg (w1.alloc (.map #[] 0));have b2:Below w1.heap.size w1 w2:=(by rw[←ak];exact(Yb _ _).alloc (Ya _) _);have M2:Hid (BM w2 w1.heap.size (mkU [])):=zh (by rw[←ak];exact BM.made w1);have z2:w1.heap.size+1=w2.heap.size:=(by rw[←ak];exact(Array.size_push _).symm);rw[ak];(try rw[z2]);have B2:=zD B1 b2;have T2:=zh (T1.below b2);have Z2:=zh (Z1.below b2);clear b2 ak z2 B1 T1 Z1;clear aV;go_wp2_with(with_reducible refine zS 13 ?_);refine zh (zL Z2 rfl YP ?_);have C:=zh (qJ t ⟨la,n,lc⟩ w2 T2.o HW.o);go_wp2_with fail;refine C.mono ?_;clear C;rintro e w3 ⟨u,ds,rfl,ho,hm,hl,b3⟩;have DM:=zh hm;have DL:=zh hl;have B3:=zD B2 b3;have Z3:=zh (Z2.below b3);have M3:=zh (M2.below b3);clear b3 B2 T2 Z2 M2;obtain⟨da,dc,rfl⟩:=ho.slice;obtain⟨q,hq⟩:=zg ds.length;have HQ:=zh hq
 have D3:Hid (aN 1 w3 (.slice da q dc) q (fun i=>bC (ds.getD i 0))):=zh (by have h:=ho.at' (0:Int) (by decide) (by decide) (by omega);rwa[hq]at h)
 have DD:Hid (∀i,i < q→dS (ds.getD i 0)=true∧0≤ds.getD i 0∧ds.getD i 0 < 512):=zh (fun i hi=>by
  have h1:ds.getD i 0∈ds:=aK (by rw[hq];exact hi);obtain⟨h2,y,h3⟩:=Px.1 ((hm _).1 h1);have :=(HW.n _ h3).2.1;have h4:0≤ds.getD i 0∧ds.getD i 0 < 512:=⟨h2,by simp only at this;omega⟩
  exact⟨(jT _).2 h4,h4⟩)
 rw[hq]at DL;rw[hq];clear ho hm hl hq;go_wp2_with fail;go_loopg [16] q (fun g aW wx=>∃j:Nat,j+g=q∧aW=.int .i64 (j:Int)∧Hid (BM wx w1.heap.size (mkU (ds.take j)))∧Hid (ag wx w.heap.size 49 1 (fun _=>.slice la n lc))∧Hid (aN 1 wx (.slice da q dc) q (fun i=>bC (ds.getD i 0)))∧Hid (Below w.heap.size w wx));case atStart=>exact⟨0,by omega,rfl,M3,Z3,D3,B3⟩
 case round=>
  clear M3 Z3 D3 B3;obtain⟨j,hj,rfl,hM,hZ,hD,hB⟩:=hrel;obtain⟨w4,rfl⟩:=zG wr;have q0:=Ye j;by_cases ae:j < q
  · obtain⟨d0,d1,-⟩:=zl ae;obtain⟨b,off,rfl,ah,hb,hc⟩:=aN.aI (s:=1) (n:=q) (a:=da) (k:=dc) (c:=fun i=>bC (ds.getD i 0)) hD.o ae;have aj:=zh ae;have lk:w4.cell? ⟨b,off+j,none⟩=some (.int .i64 (ds.getD j 0)):=by have h:=hc j ae 0 (by decide);rwa[Nat.one_mul]at h
    have TK:Hid (mkU (ds.take (j+1))=fun z=>mkU (ds.take j) z||(upL (ds.getD j 0)).contains z):=zh (by
     funext z
     rw[aH 0 ds (show j < ds.length by rw[HQ.o];exact ae),Tn])
    have DV:=zh (DD.o j ae);obtain⟨d,hd⟩:=zg (ds.getD j 0);rw[hd]at lk TK DV;have aX:=zw  ((j:Int)+1) (by have :=DL.o;omega);have aY:=zw  (512+d) (by have :=DV.2;omega);have B4:=hB;have M4:=hM;have Z4:=hZ;have D4:=hD;clear hc ah hb hd ae hB hM hZ hD;go_wp2_with fail;refine(FP d w4).mono ?_;rintro e w5 ⟨u,rfl,ho,b5⟩;rw[if_pos DV.1]at ho;have B5:=zD B4 b5;have M5:=zh (M4.below b5);have Z5:=zh (Z4.below b5);have D5:=zh (D4.below b5);clear b5 B4 M4 Z4 D4;obtain⟨pa,pc,rfl⟩:=ho.slice;have P5:Hid (aN 1 w5 (.slice pa 9 pc) 9 (fun i=>bC ((bW d).getD i 0))):=zh (by have h:=ho.at' (0:Int) (by decide) (by decide) (show(9:Nat)≤1000000 by decide);exact h);rw[show(bW d).length=9 from by simp[bW]];clear ho lk d0 d1;go_wp2_with(with_reducible refine zn ?_);refine zh (jd rfl rfl (.tmp 25) (.tmp 27) (.const (.bool true)) rfl (512+d) rfl rfl rfl M5.o ?_);intro w6 M6 O6
    have B6:=zh (B5.trans (O6.below LW.o B5.size))
    have ZM:Hid (w.heap.size≠w1.heap.size):=zh (by
     intro e;obtain⟨m,⟨_,es,cl,hb,_⟩,_⟩:=M5.o;have h2:w5.heap[w.heap.size]? =some (.cells _ _ _):=Z5.o;rw[e,hb]at h2
     cases h2)
    have Z6:=zh (O6.row ZM.o Z5.o);have D6:=zh (aN.dH D5.o M5.o O6.o);have P6:=zh (aN.dH P5.o M5.o O6.o);clear O6 M5 Z5 D5 P5 B5;go_wp2_with fail;clear aY;go_loopg [30] 9 (fun g aZ wx=>∃i:Nat,i+g=9∧aZ=.int .i64 (i:Int)∧Hid (BM wx w1.heap.size (fun z=>mkU (ds.take j) z||((512+d)::(bW d).take i).contains z))∧Hid (ag wx w.heap.size 49 1 (fun _=>.slice la n lc))∧Hid (aN 1 wx (.slice (some ⟨b,off,none⟩) q dc) q (fun i=>bC (ds.getD i 0)))∧Hid (aN 1 wx (.slice pa 9 pc) 9 (fun i=>bC ((bW d).getD i 0)))∧Hid (Below w.heap.size w wx));case atStart=>exact⟨0,by omega,rfl,zh (M6.congr (fun z=>by simp[Bool.or_comm,eq_comm,List.contains_cons])),Z6,D6,P6,B6⟩
    case round=>
     clear M6 Z6 D6 P6 B6;obtain⟨i,hi,rfl,hM,hZ,hD,hP,hB⟩:=hrel;obtain⟨w4,rfl⟩:=zG wr;have q1:=Ye i;by_cases ae:i < 9
     · have d0:decide ((i:Int) < 9)=true:=zt (by omega);have d1:decide (i < 9)=true:=zt (by omega);have q4:(i:Int) < 9:=(by omega);obtain⟨pb,az,rfl,ah,hb,hc⟩:=aN.aI (s:=1) (n:=9) (a:=pa) (k:=pc) (c:=fun i=>bC ((bW d).getD i 0)) hP.o ae;have HI:=zh ae;have lk:w4.cell? ⟨pb,az+i,none⟩=some (.int .i64 ((bW d).getD i 0)):=(by have h:=hc i ae 0 (by decide);rwa[Nat.one_mul]at h);have PK:Hid ((bW d).take (i+1)=(bW d).take i++[(bW d).getD i 0]):=zh (aH 0 (bW d) (by simp[bW];exact ae));obtain⟨z,hz⟩:=zg ((bW d).getD i 0);rw[hz]at lk PK;clear hc ah hb hz ae;go_wp2_with(with_reducible refine zn ?_);refine zh (jd rfl rfl (.tmp 34) (.tmp 35) (.const (.bool true)) rfl z rfl rfl rfl hM.o ?_);intro w6 M6 O6;have B6:=zh (hB.trans (O6.below LW.o hB.size));have Z6:=zh (O6.row ZM.o hZ.o);have D6:=zh (aN.dH hD.o hM.o O6.o);have P6:=zh (aN.dH hP.o hM.o O6.o);clear O6 hM hZ hD hP hB;go_wp2_with fail
       go_roundg(9 - (i+1));case measure=>have :=HI.o;omega
       case rel=>
        go_light;exact⟨i+1,by have :=HI.o;omega,by go_num,zh (M6.congr (fun y=>by rw[PK.o];simp only[List.contains_cons,List.contains_append,List.contains_nil,Bool.or_false];rw[show decide (y=z)=(y==z)from rfl];cases(y==z)<;>simp)),Z6,D6,P6,B6⟩
     · have d0:decide ((i:Int) < 9)=false:=zT (by omega);have d1:decide (i < 9)=false:=zT (by omega)
       have M7:Hid (BM w4 w1.heap.size (mkU (ds.take (j+1)))):=zh (hM.congr (fun z=>by
        have hl:(bW d).length≤i:=by simp[bW];omega
        rw[TK.o,Yq hl,←Sl]))
       clear ae hi q1 hM;go_wp2_with fail;go_roundg(q - (j+1));case measure=>have :=aj.o;omega
       case rel=>
        go_light;exact⟨j+1,by have :=aj.o;omega,by go_num,M7,hZ,hD,hB⟩
  · obtain⟨d0,d1⟩:=zk ae
    have M4:Hid (BM w4 w1.heap.size (Ey t)):=zh (hM.congr (fun z=>by
     rw[Yq (by rw[HQ.o];omega)]
     exact VW DM.o _))
    have Z4:=hZ;have B4:=hB;have x0:=Z4.cell (i:=0) (by decide);clear hM hZ hB hD ae hj q0;go_wp2_with fail;clear d0 d1 x0;have A0:Hid (∀m,m < 0→okN t m=true):=zh (fun m hm=>absurd hm (Nat.not_lt_zero m));clear DM DL HQ DD;go_loopg [41] n (fun g aA wx=>∃i:Nat,i+g=n∧aA=.int .i64 (i:Int)∧Hid (∀m,m < i→okN t m=true)∧Hid (BM wx w1.heap.size (Ey t))∧Hid (ag wx w.heap.size 49 1 (fun _=>.slice la n lc))∧Hid (Below w.heap.size w wx));case atStart=>exact⟨0,by omega,rfl,A0,M4,Z4,B4⟩
    case round=>
     clear A0 M4 Z4 B4;obtain⟨i,hi,rfl,hA,hM,hZ,hB⟩:=hrel;obtain⟨w4,rfl⟩:=zG wr;have q0:=Ye i;by_cases ae:i < n
     · obtain⟨d0,d1,-⟩:=zl ae;obtain⟨b,off,rfl,ah,hb,hc⟩:=aN.aI (s:=2) (n:=n) (a:=la) (k:=lc) (c:=fun i=>ndC (t.getD i nd0)) HT.o ae;have bf:=zh hb;have aj:=zh ae;have aB:Hid (∀j,j < 2→w4.cell? ⟨b,off+2*i+j,none⟩=some (ndC (t.getD i nd0) j)):=zh (fun j hj=>(hB.cell (p:=⟨b,off+2*i+j,none⟩) hb).trans (hc i ae j hj));have XP:Hid (∀p,i=p+1→w.cell? ⟨b,off+2*p,none⟩=some (.int .i64 (t.getD p nd0).1)):=zh (fun p hp=>hc p (by omega) 0 (by decide));have NW:=zh (HW.n _ (aK (d:=nd0) (show i < t.length by rw[HN.o];exact ae)));obtain⟨ok,au⟩:=zg (okN t i);have OF:Hid (ok=false→R=210):=zh (fun h=>FF.o i ae (au.trans h))
       have OA:Hid (ok=true→∀m,m < i+1→okN t m=true):=zh (fun h m hm=>by
        rcases Nat.lt_succ_iff_lt_or_eq.1 hm with h1 | h1
        · exact hA.o m h1
        · rw[h1];exact au.trans h)
       have HD:Hid (ok=((decide (i=0)||decide ((t.getD (i - 1) nd0).1 < (t.getD i nd0).1))&&aU (t.getD i nd0).2&&Ey t (t.getD i nd0).1)):=zh au.symm;obtain⟨x,hx⟩:=zg (t.getD i nd0);rw[hx]at aB NW HD;have aX:=zw  ((i:Int)+1) (by have :=QN.o;omega);have I9:=zh (show i≤1023 by have :=QN.o;omega);have B4:=hB;have Z4:=hZ;have M4:=hM;clear hc ah hb hx ae hA au hB hZ hM;go_upto_region 15 with fail;go_wp2_with(with_reducible refine zS 45 ?_);refine zh (zE b (off+i*2) rfl Zh off i (by rw[Ym]) (ndC x) aB.o ?_);clear aB d0 d1;have Zr:=zh (ag.new w4 302 2 (ndC nd0));go_upto_region 16 with((with_reducible refine zN ?_);refine zV Zr rfl (ndC x) rfl Zh (fun _ _=>rfl) ?_;intro w5 X5 o5);have b5:Below w4.heap.size w4 w5:=zO o5;have B5:=zD B4 b5;have Z5:=zh (Z4.below b5);have M5:=zh (M4.below b5);clear b5 o5 Zr B4 Z4 M4
       have ay:Hid (∀p,i=p+1→w5.cell? ⟨b,off+2*p,none⟩=some (.int .i64 (t.getD p nd0).1)):=zh (fun p hp=>(B5.cell (p:=⟨b,off+2*p,none⟩) bf.o).trans (XP.o p hp));have x0:w5.cell? ⟨w4.heap.size,0,none⟩=some (.int .i64 x.1):=X5.cell (i:=0) (by decide);have x1:w5.cell? ⟨w4.heap.size,1,none⟩=some (.int .i64 x.2):=X5.cell (i:=1) (by decide);have z0:=Z5.cell (i:=0) (by decide);have aJ:=fun d os=>cell_regrown x0 d os;have aO:=fun d os=>cell_regrown x1 d os;have bg:=fun d os=>cell_regrown z0 d os;have qm:=fun d os=>(M5.below (below_regrown w5 d os)).look x.1;have D0:Hid (∀W,Below w5.heap.size w5 W→Calls Tryz.prog 150 #[.int .i64 x.2] W (zr (.int .i64 (chk x.2)) W)):=zh (fun W _=>check_any x.2 W);have n0:decide (x.1 < 1)=false:=(by rw[decide_eq_false_iff_not];have :=NW.1;omega);have n1:decide (1023 < x.1)=false:=(by rw[decide_eq_false_iff_not];have :=NW.2.1;omega);clear x0 x1 z0 NW
       have CH:Hid (chk x.2=if aU x.2 then 0 else 40):=zh rfl;obtain⟨cx,aC⟩:=zg (chk x.2);obtain⟨ux,aF⟩:=zg (Ey t x.1);obtain⟨ex,hex⟩:=zg (aU x.2);rw[aC]at D0;rw[aC,hex]at CH;rw[aF,hex]at HD;rw[aF]at qm;obtain⟨xa,aP⟩:=zg x.1;obtain⟨xb,aQ⟩:=zg x.2;rw[aP]at aJ qm n0 n1 HD;rw[aQ]at aO D0;clear aC aF hex aP aQ;dsimp only[Act.put];go_cut [41,82]from 46 to 82 (fun aA bn wx=>aA=.int .i64 (i:Int)∧bn=.bool (!ok)∧Hid (Below w5.heap.size w5 wx))
       case first =>
        by_cases k0:i=0
        · subst k0;rw[show decide ((0:Nat)=0)=true from rfl,Bool.true_or,Bool.true_and]at HD;clear XP ay;cases ex
          · obtain rfl:cx=40:=CH.o;obtain rfl:ok=false:=HD.o;clear HD OF OA CH;refine wp_region_quiet_below (by kernel_rfl) (by kernel_rfl) ?_;(repeat(go_big_quiet_step (with_reducible exact jg D0.o _ _)));refine wpQuiet_nil ?_;intro w6 af;have B6:=zh (aT af);clear af;go_wp2_with fail;go_meet;exact⟨rfl,rfl,B6⟩
          · obtain rfl:cx=0:=CH.o;cases ux
            · obtain rfl:ok=false:=HD.o;clear HD OF OA CH;refine wp_region_quiet_below (by kernel_rfl) (by kernel_rfl) ?_;(repeat(go_big_quiet_step (with_reducible exact jg D0.o _ _)));refine wpQuiet_nil ?_;intro w6 af;have B6:=zh (aT af);clear af;go_wp2_with fail;go_meet;exact⟨rfl,rfl,B6⟩
            · obtain rfl:ok=true:=HD.o;clear HD OF OA CH;refine wp_region_quiet_below (by kernel_rfl) (by kernel_rfl) ?_;(repeat(go_big_quiet_step (with_reducible exact jg D0.o _ _)));refine wpQuiet_nil ?_;intro w6 af;have B6:=zh (aT af);clear af;go_wp2_with fail;go_meet;exact⟨rfl,rfl,B6⟩
        · obtain⟨p,rfl⟩:∃p,i=p+1:=⟨i - 1,by omega⟩;have xp:=ay.o p rfl;rw[show off+2*p=off+p*2 by omega]at xp;rw[show decide (p+1=0)=false from rfl,Bool.false_or,Nat.add_sub_cancel]at HD;obtain⟨pv,aS⟩:=zg ((t.getD p nd0).1);rw[aS]at xp HD;have j0:=Ye p;have j1:(p:Int) < (n:Int):=(by have :=aj.o;omega);have j2:=zw  (p:Int) (by have :=I9.o;omega);have d3:decide ((0:Int) < (p:Int)+1)=true:=zt (by omega);have bu:=fun d os=>cell_regrown xp d os;clear k0 XP ay aS xp;rw[show decide (pv < xa)= !(decide (xa≤pv))from by rw[Bool.eq_iff_iff];simp]at HD;cases n3:decide (xa≤pv);rotate_left
          · obtain rfl:ok=false:=(by rw[HD.o,n3];rfl);clear HD OF OA;refine wp_region_quiet_below (by kernel_rfl) (by kernel_rfl) ?_;(repeat(go_big_quiet_step (with_reducible exact jg D0.o _ _)));refine wpQuiet_nil ?_;intro w6 af;have B6:=zh (aT af);clear af;go_wp2_with fail;go_meet;exact⟨rfl,rfl,B6⟩
          rw[n3,Bool.not_false,Bool.true_and]at HD;cases ex
          · obtain rfl:cx=40:=CH.o;obtain rfl:ok=false:=HD.o;clear HD OF OA CH;refine wp_region_quiet_below (by kernel_rfl) (by kernel_rfl) ?_;(repeat(go_big_quiet_step (with_reducible exact jg D0.o _ _)));refine wpQuiet_nil ?_;intro w6 af;have B6:=zh (aT af);clear af;go_wp2_with fail;go_meet;exact⟨rfl,rfl,B6⟩
          · obtain rfl:cx=0:=CH.o;cases ux
            · obtain rfl:ok=false:=HD.o;clear HD OF OA CH;refine wp_region_quiet_below (by kernel_rfl) (by kernel_rfl) ?_;(repeat(go_big_quiet_step (with_reducible exact jg D0.o _ _)));refine wpQuiet_nil ?_;intro w6 af;have B6:=zh (aT af);clear af;go_wp2_with fail;go_meet;exact⟨rfl,rfl,B6⟩
            · obtain rfl:ok=true:=HD.o;clear HD OF OA CH;refine wp_region_quiet_below (by kernel_rfl) (by kernel_rfl) ?_;(repeat(go_big_quiet_step (with_reducible exact jg D0.o _ _)));refine wpQuiet_nil ?_;intro w6 af;have B6:=zh (aT af);clear af;go_wp2_with fail;go_meet;exact⟨rfl,rfl,B6⟩
       case rest=>
        rename World=>w6
        obtain⟨rfl,rfl,b6⟩:=hcut;have B6:=zD B5 b6.o;have Z6:=zh (Z5.below b6.o);have M6:=zh (M5.below b6.o);clear b6 B5 Z5 M5 X5 D0 CH HD XP ay aJ aO bg qm n0 n1;cases ok
        · skip;obtain rfl:R=210:=OF.o rfl;clear OF OA;go_wp2_with fail;go_ret;exact⟨rfl,B6.o⟩
        have AN:=zh (OA.o rfl);clear OA OF;go_wp2_with fail;go_roundg(n - (i+1));case measure=>have :=aj.o;omega
        case rel=>
         go_light;exact⟨i+1,by have :=aj.o;omega,by go_num,AN,M6,Z6,B6⟩
     · obtain⟨d0,d1⟩:=zk ae;obtain rfl:R=0:=FT.o (fun m hm=>hA.o m (by omega));clear hA;go_wp2_with fail;go_ret;exact⟨rfl,hB.o⟩
theorem Pm(w:World):Calls Tryz.prog 190 #[.map none] w fun e w'=>∃hd,e=.returned (trA hd)∧eY w' hd []∧Below w.heap.size w w':=by
 go_in;have B0:=zh (Yb w.heap.size w);go_upto_region 1 with fail;obtain⟨w1,ae,b1,z1,Z1⟩:=zQ w (.cells #[.slice none 0 0] 49) 49 1 (fun _=>.slice none 0 0) rfl;rw[ae];(try rw[z1]);have B1:=zD B0 b1;clear b1 ae z1 B0;have C:=zh (fun W=>yE none W);go_wp2_with fail;refine(C.o _).mono ?_;rintro e w2 ⟨rfl,rfl⟩;clear C;have Y2:Hid (ag (w1.alloc (.cells #[.map none] 252)) w1.heap.size 252 1 (fun _=>.map none)):=zh (ag.new w1 252 1 (fun _=>.map none));have b2:Below w1.heap.size w1 (w1.alloc (.cells #[.map none] 252)):=(Yb _ _).alloc (Ya _) _;obtain⟨w2,af⟩:=zg (w1.alloc (.cells #[.map none] 252));rw[af]at b2 Y2 ⊢;have Z2:=zh (Z1.below b2);have B2:=zD B1 b2;clear af b2 Z1 B1;have SD:=zh (sD (gf:=256) (enters_of Tryz.func256 (by kernel_rfl) rfl) w2 (Ov 4 w1.heap.size w2 Y2.o) (fun k e=>e.elim) (by decide) (fun xs hx=>by rw[hx];decide));clear Y2;go_wp2_with fail;refine SD.mono ?_
 rintro e w3 ⟨u,xs,rfl,hx,ho,b3⟩;subst hx;have Z3:=zh (Z2.below b3);have B3:=zD B2 b3;obtain⟨ua,uc,rfl⟩:=ho.slice;rw[show(iL []).length=0 from by rw[(fG _).length_eq];rfl];clear ho b3 SD Z2 B2;go_wp2_with fail;go_loopg [9] 0 (fun g s9 wx=>s9=.int .i64 0∧wx=w3);case atStart=>exact⟨rfl,rfl⟩
 case round=>
  obtain⟨rfl,rfl⟩:=hrel;go_wp2_with(with_reducible refine zS 24 ?_);refine zh (zL Z3 rfl YP ?_);go_wp2_with(with_reducible refine zn ?_);refine zh (zV Z3 rfl _ rfl YP (fun j _=>rfl) ?_);intro w5 Z5 O5;have B5:=zh (B3.trans (O5.below (Ya _) B3.size));clear Z3 O5 B3;go_wp2_with fail;refine bodyPost_ret (v:=.agg (ah 1 (fun _=>hd0.v))) (by exact zB Z5 rfl rfl YP) rfl ?_;exact⟨hd0,rfl,ax.nil _ _,B5.o⟩
theorem ax.dH{T:TypeId}{s:Nat}{α β:Type}{c:α→Nat→Value}{enc:β→Value}{G:β→Prop}{W W':World}{base b:Nat}{v:Value}{l:List α}{m:List (β×Value)}(h:ax T s c W base v l)(hm:KM.At enc G W b m)(o:aG b W W'):ax T s c W' base v l:=
 h.only o (fun b' e he=>by
  subst he;obtain⟨_,es,cl,hb,_⟩:=hm;have :=wG h _ _ e hb
  cases this)
def ChgO(w w':World)(d:Int)(r:Option Tr)(v:Value):Prop:=match r with
 | none=>∃e:Int,e≠0∧v=.tuple #[.map none,.slice none 0 0,.int .i64 e]
 | some m=>∃b u,v=.tuple #[.map (some b),u,.int .i64 0]∧NdT w' b m∧w.heap.size≤b∧ax 3 1 bC w' w.heap.size u (bW d)
theorem NR(m:Tr)(l:List Int)(x:Int):(m.filter fun y=> !l.contains y.1).filter (fun y=> !decide (y.1=x))=m.filter fun y=> !(l++[x]).contains y.1:=by
 rw[List.filter_filter];congr 1;funext y;simp only[List.contains_append,List.contains_cons,List.contains_nil,Bool.or_false,Bool.not_or];rw[Bool.and_comm];rfl
theorem nz(t:Tr)(h:Hd)(d:Int)(mb:Bool)(w:World)(ht:eY w h t)(hw:TrW t):
 Calls Tryz.prog 187 #[trA h,.int .i64 d,.bool mb] w fun e w'=>∃v,e=.returned v∧ChgO w w' d (jH okT t d mb) v∧Below w.heap.size w w':=by
 have az:=zM Tryz.prog;have HW:=zh hw;have H0:=zh ht;obtain⟨R,hR⟩:=zg (jH okT t d mb);have HR:=zh hR;rw[hR];clear ht hw hR;go_in;have B0:=zh (Yb w.heap.size w);go_upto_region 1 with fail;obtain⟨w1,aj,b1,z1,Z1⟩:=zQ w (.cells #[h.v] 49) 49 1 (fun _=>h.v) rfl;rw[aj];(try rw[z1]);have B1:=zD B0 b1;have H1:=zh (H0.below b1);clear b1 aj z1 B0 H0;have C:=zh (oW t h w1 H1.o HW.o);go_wp2_with(with_reducible refine zS 15 ?_);refine zh (zL Z1 rfl YP ?_);go_wp2_with fail;refine(C.o).mono ?_;rintro e w2 ⟨rfl,b2⟩;have B2:=zD B1 b2;have H2:=zh (H1.below b2);have Z2:=zh (Z1.below b2);clear b2 B1 H1 Z1;clear C;cases hk:okT t
 · obtain rfl:R=none:=(by rw[←HR.o];unfold jH;rw[hk];rfl);rw[if_neg Bool.false_ne_true];clear hk;go_wp2_with fail;go_ret3;exact⟨_,rfl,⟨210,by decide,rfl⟩,B2.o⟩
 rw[if_pos rfl];have OK:=zh hk;clear hk;have C:=zh (Df t h w2 H2.o HW.len);go_wp2_with(with_reducible refine zS 20 ?_);refine zh (zL Z2 rfl YP ?_);go_wp2_with fail;refine C.mono ?_;rintro e w3 ⟨b,rfl,hm,hb,b3⟩;have M3:=zh hm;have B3:=zD B2 b3;have HB:=zh (Yc B2.size hb);clear hm hb b3 C Z2 H2 B2;by_cases hd:dS d=true;rotate_left
 · have ag:(decide (0≤d)&&decide (d < 512))=false:=by
    unfold dS at hd;simpa using hd
   obtain rfl:R=none:=(by rw[←HR.o];unfold jH;rw[ag,Bool.and_false,Bool.false_and];rfl);obtain⟨z,hz⟩:=zg (IntKind.i64.wrap (512+d));clear hd;go_wp2_with(with_reducible refine zS 26 ?_);refine zh ?_;refine KM.dJ kyI rfl 252 3 (.tmp 23) (.tmp 25) true rfl z trivial rfl (by rw[←hz];rfl) M3.o Tryz.underlying252 kY ?_;rw[jL];obtain⟨r,hr⟩:=zg (Top.look (ofL t) z);rw[hr];clear hz hr HR M3;by_cases h0:d < 0
   · have d0:decide (d < 0)=true:=zt h0;clear h0 ag
     cases r with
     | some y=>
       go_wp2_with fail;go_ret3;exact⟨_,rfl,⟨200,by decide,rfl⟩,B3.o⟩
     | none=>
       go_wp2_with fail;go_ret3;exact⟨_,rfl,⟨200,by decide,rfl⟩,B3.o⟩
   · have d0:decide (d < 0)=false:=zT h0;have d1:decide (512≤d)=true:=(by rw[decide_eq_true_iff];simp only[Bool.and_eq_false_iff,decide_eq_false_iff_not]at ag;omega);clear h0 ag
     cases r with
     | some y=>
       go_wp2_with fail;go_ret3;exact⟨_,rfl,⟨200,by decide,rfl⟩,B3.o⟩
     | none=>
       go_wp2_with fail;go_ret3;exact⟨_,rfl,⟨200,by decide,rfl⟩,B3.o⟩
 have HD:=zh hd;have ae:=(jT d).1 hd;have d0:decide (d < 0)=false:=(by rw[decide_eq_false_iff_not];have :=ae.1;omega);have d1:decide (512≤d)=false:=(by rw[decide_eq_false_iff_not];have :=ae.2;omega);have ak:=zw  (512+d) (by have :=ae.1;have :=ae.2;omega)
 have ER:Hid (R=if(!mb||(Top.look (ofL t) (512+d)).isSome)=true then some ((ofL t).filter fun x=> !(upL d).contains x.1)else none):=zh (by
  rw[←HR.o];unfold jH
  rw[OK.o,show(decide (0≤d)&&decide (d < 512))=true from by have :=ae.1;have :=ae.2;simp;omega,Bool.and_self,Bool.true_and])
 clear ae hd HR OK;go_wp2_with(with_reducible refine zS 26 ?_);refine zh (KM.dJ kyI rfl 252 3 (.tmp 23) (.tmp 25) true rfl (512+d) trivial rfl rfl M3.o Tryz.underlying252 kY ?_);rw[jL];obtain⟨r,hr⟩:=zg (Top.look (ofL t) (512+d));rw[hr]at ER ⊢;clear hr;rw[if_pos rfl];go_upto_region 6 with fail;go_cut [8,41]from 22 to 41 (fun s8 au wx=>s8=.int .i64 0∧au=.bool (mb&& !r.isSome)∧w3=wx)
 case first =>
  cases r<;>cases mb
  all_goals(
   go_wp2_with fail;go_meet
   exact⟨rfl,rfl,rfl⟩)
 case rest=>
  obtain⟨rfl,rfl,rfl⟩:=hcut;cases hc:(mb&& !r.isSome);rotate_left
  · obtain rfl:R=none:=by
     rw[ER.o,if_neg];cases mb<;>simp_all
    clear hc ER;go_wp2_with fail;go_ret3;exact⟨_,rfl,⟨200,by decide,rfl⟩,B3.o⟩
  obtain rfl:R=some ((ofL t).filter fun x=> !(upL d).contains x.1):=by
   rw[ER.o,if_pos];cases mb<;>simp_all
  clear hc ER;have C:=zh (FP d w3);have KB:=zh (fun m n W (hm:NdT W b m)=>Ip b m n W hm);go_wp2_with fail;refine C.mono ?_;rintro e w4 ⟨u,rfl,ho,b4⟩;rw[if_pos HD.o]at ho;have O4:=zh (ho.mono B3.size);have M4:=zh (KM.At.below M3.o b4);have B4:=zD B3 b4;obtain⟨ua,uc,rfl⟩:=ho.slice;rw[show(bW d).length=9 from by simp[bW]]at O4 ⊢;clear ho b4 C M3 B3;go_wp2_with fail;refine(KB.o _ _ _ M4.o).mono ?_;rintro e w5 ⟨rfl,hm,ho⟩
  have M5:Hid (NdT w5 b ((ofL t).filter fun x=> !([512+d]++(bW d).take 0).contains x.1)):=zh (by
   have e:(fun x:Int×Int=> !([512+d]++(bW d).take 0).contains x.1)=fun x=> !decide (x.1=512+d):=by
    funext x;simp
   rw[e];exact hm)
  have O5:=zh (O4.dH M4.o ho);have B5:=zh (B4.trans (ho.below HB.o B4.size));clear hm ho M4 O4 B4 ak;go_wp2_with fail;go_loopg [55] 9 (fun g ay wx=>∃i:Nat,i+g=9∧ay=.int .i64 (i:Int)∧Hid (NdT wx b ((ofL t).filter fun x=> !([512+d]++(bW d).take i).contains x.1))∧Hid (ax 3 1 bC wx w.heap.size (.slice ua 9 uc) (bW d))∧Hid (Below w.heap.size w wx));case atStart=>exact⟨0,by omega,rfl,M5,O5,B5⟩
  case round=>
   clear M5 O5 B5;obtain⟨i,hi,rfl,hM,hO,hB⟩:=hrel;obtain⟨w4,rfl⟩:=zG wr;have q1:=Ye i;by_cases af:i < 9
   · have d2:decide ((i:Int) < 9)=true:=zt (by omega);have d3:decide (i < 9)=true:=zt (by omega);have q4:(i:Int) < 9:=(by omega);have P4:Hid (aN 1 w4 (.slice ua 9 uc) 9 (fun i=>bC ((bW d).getD i 0))):=zh (by have h:=hO.at' (0:Int) (by decide) (by decide) (by simp[bW]);rwa[show(bW d).length=9 from by simp[bW]]at h);obtain⟨pb,ah,rfl,ai,hb,hc⟩:=aN.aI (s:=1) (n:=9) (a:=ua) (k:=uc) (c:=fun i=>bC ((bW d).getD i 0)) P4.o af;have HI:=zh af;have lk:w4.cell? ⟨pb,ah+i,none⟩=some (.int .i64 ((bW d).getD i 0)):=(by have h:=hc i af 0 (by decide);rwa[Nat.one_mul]at h);have PK:Hid ((bW d).take (i+1)=(bW d).take i++[(bW d).getD i 0]):=zh (aH 0 (bW d) (by simp[bW];exact af));obtain⟨z,hz⟩:=zg ((bW d).getD i 0);rw[hz]at lk PK;clear hc ai hb hz af P4;go_wp2_with fail;refine(KB.o _ _ _ hM.o).mono ?_;rintro e w6 ⟨rfl,hm,ho⟩
     have M6:Hid (NdT w6 b ((ofL t).filter fun x=> !([512+d]++(bW d).take (i+1)).contains x.1)):=zh (by
      rw[PK.o,←Xa,←NR];exact hm)
     have O6:=zh (hO.dH hM.o ho);have B6:=zh (hB.trans (ho.below HB.o hB.size));clear hm ho hM hO hB;go_wp2_with fail;go_roundg(9 - (i+1));case measure=>have :=HI.o;omega
     case rel=>
      go_light;exact⟨i+1,by have :=HI.o;omega,by go_num,M6,O6,B6⟩
   · have d2:decide ((i:Int) < 9)=false:=zT (by omega);have d3:decide (i < 9)=false:=zT (by omega);have hl:(bW d).length≤i:=(by simp[bW];omega);rw[Yq hl,List.singleton_append,←Sl]at hM;have M4:=hM;clear af hi q1 hM hl;go_wp2_with fail;go_ret3;exact⟨_,rfl,⟨b,_,rfl,M4.o,HB.o,hO.o⟩,hB.o⟩
structure oH(m:Tr):Prop where
 n:∀x∈m,1≤x.1∧x.1≤1023∧bQ x.2
 nd:(m.map (·.1)).Nodup
theorem yI:∀(k:Nat) (l:List Int),l.Nodup→(∀x∈l,1≤x∧x≤(k:Int))→l.length≤k
 | 0,l,_,h=>by
   cases l with
   | nil=>exact Ya _
   | cons a l=>have :=h a (List.mem_cons_self ..);omega
 | k+1,l,hn,h=>by
   have h1:(l.filter (fun x=>decide (x≠(k:Int)+1))).length≤k:=yI k _ (hn.filter _) (fun x hx=>by
    have :=List.mem_filter.1 hx;have h2:=h x this.1;have h3:x≠(k:Int)+1:=by simpa using this.2
    omega)
   have h2:∀l:List Int,l.Nodup→∀a,l.length≤(l.filter (fun x=>decide (x≠a))).length+1:=by
    intro l hn a
    induction l with
    | nil=>simp
    | cons b l ih=>
      obtain⟨hb,hl⟩:=List.nodup_cons.1 hn;by_cases e:b=a
      · subst e
        have :l.filter (fun x=>decide (x≠b))=l:=List.filter_eq_self.2 (fun x hx=>by
         have :x≠b:=fun e=>hb (e▸hx)
         simpa using this)
        rw[List.filter_cons_of_neg (by simp),this,Yr];exact Ya _
      · rw[List.filter_cons_of_pos (by simpa using e),Yr,Yr];exact Nat.succ_le_succ (ih hl)
   have :=h2 l hn ((k:Int)+1);omega
theorem oH.len{m:Tr}(h:oH m):m.length≤1023:=by
 have :=yI 1023 (m.map (·.1)) h.nd (fun x hx=>by
  obtain⟨y,hy,rfl⟩:=Yo.1 hx
  exact⟨(h.n y hy).1,(h.n y hy).2.1⟩)
 rwa[Yk]at this
theorem XT(t:Tr):∀x,x∈ofL t→x∈t:=by
 refine JY (p:=fun t=>∀x,x∈ofL t→x∈t) (fun x h=>h) (fun t a ih x h=>?_) t;rw[mJ]at h;unfold mW at h;split at h
 · exact Yt.2 (.inl (ih x h))
 · rcases Yt.1 h with h | h
   · exact Yt.2 (.inl (ih x h))
   · exact Yt.2 (.inr h)
theorem oH.of{t:Tr}(h:TrW t):oH (ofL t):=⟨fun x hx=>h.n x (XT t x hx),LH t⟩
theorem oH.sub{m:Tr}(h:oH m)(p:Int×Int→Bool):oH (m.filter p):=
 ⟨fun x hx=>h.n x (List.mem_filter.1 hx).1,h.nd.sublist (List.Sublist.map _ List.filter_sublist)⟩
theorem oH.put{m:Tr}(h:oH m){n p:Int}(hn:1≤n∧n≤1023)(hp:bQ p):oH (je m n p):=by
 refine⟨fun x hx=>?_,?_⟩
 · unfold je at hx;rcases Yt.1 hx with h1 | h1
   · exact h.n x (List.mem_filter.1 h1).1
   · rw[Yp.1 h1];exact⟨hn.1,hn.2,hp⟩
 · unfold je;rw[Yn,List.nodup_append];refine⟨(h.sub _).nd,by simp,fun a ha b hb=>?_⟩;simp only[Yw,List.map_nil,Yp]at hb;obtain⟨y,hy,rfl⟩:=Yo.1 ha;have :=(List.mem_filter.1 hy).2;rw[hb];simpa using this
theorem oH.tree{m:Tr}(h:oH m):TrW (gW m):=by
 refine⟨fun x hx=>?_,?_⟩
 · unfold gW at hx;obtain⟨k,hk,rfl⟩:=Yo.1 hx;obtain⟨y,hy,e⟩:=Yo.1 ((fG _).mem_iff.1 hk);have ae:=h.n y hy;simp only at e ⊢;rw[e]at ae;refine⟨ae.1,ae.2.1,?_⟩
   cases hl:Top.look m k with
   | none=>exact(⟨by decide,by decide⟩:bQ ((none:Option Int).getD 0))
   | some z=>exact(h.n _ (yu hl)).2.2
 · unfold gW;rw[Yk,(fG _).length_eq,Yk];exact h.len
theorem qW{x:Int}(h:aU x=true):bQ x:=by
 obtain⟨n,rfl,h1,h2,h3⟩:=lu h;unfold bQ;constructor <;>omega
theorem kU{t:Tr}{d:Int}{b:Bool}{m:Tr}(hw:TrW t)(h:jH okT t d b=some m):oH m∧dS d=true:=by
 have hd:=(jT d).2 (kR okT h).1;unfold jH at h;split at h
 · obtain rfl:=Yx h;exact⟨(oH.of hw).sub _,hd⟩
 · cases h
theorem uJ{d:Int}(h:dS d=true):1≤512+d∧512+d≤1023:=by
 have :=(jT d).1 h;have h1:=this.1;have h2:=this.2;omega
theorem setL_w{t:Tr}(hw:TrW t)(d p:Int):TrW (xq okT aU t d p):=by
 unfold xq
 cases h:jH okT t d false with
 | none=>exact TrW.nil
 | some m=>
   obtain⟨h1,h2⟩:=kU hw h;show TrW (if aU p then gW (je m (512+d) p)else [])
   cases he:aU p with
   | false=>exact TrW.nil
   | true=>exact(h1.put (uJ h2) (qW he)).tree
theorem remL_w{t:Tr}(hw:TrW t)(d:Int):TrW (xJ okT t d):=by
 unfold xJ
 cases h:jH okT t d true with
 | none=>exact TrW.nil
 | some m=>exact(kU hw h).1.tree
theorem DJ(t:Tr)(h:Hd)(d p:Int)(w:World)(ht:eY w h t)(hw:TrW t):
 Calls Tryz.prog 138 #[trA h,.int .i64 d,.int .i64 p] w fun e w'=>∃hd x,e=.returned (.tuple #[trA hd,.int .i64 x])∧eY w' hd (xq okT aU t d p)∧Below w.heap.size w w':=by
 have HW:=zh hw;have H0:=zh ht;obtain⟨T,hT⟩:=zg (xq okT aU t d p);have HT:=zh hT;rw[hT];clear ht hw hT;go_in;have B0:=zh (Yb w.heap.size w);go_upto_region 1 with fail;obtain⟨w1,ae,b1,z1,Z1⟩:=zQ w (.cells #[h.v] 49) 49 1 (fun _=>h.v) rfl;rw[ae];(try rw[z1]);have B1:=zD B0 b1;have H1:=zh (H0.below b1);clear b1 ae z1 B0 H0;have LY:=zh B1.size;obtain⟨w2,af,b2,z2,Y2⟩:=zQ w1 (.cells #[.slice none 0 0] 49) 49 1 (fun _=>hd0.v) rfl;rw[af];(try rw[z2]);have B2:=zD B1 b2;have H2:=zh (H1.below b2);have Z2:=zh (Z1.below b2);clear b2 af z2 B1 H1 Z1;have C:=zh (nz t h d false w2 H2.o HW.o);obtain⟨R,hR⟩:=zg (jH okT t d false);have HR:=zh hR;rw[hR]at C;clear hR;go_wp2_with(with_reducible refine zS 11 ?_);refine zh (zL Z2 rfl YP ?_);go_wp2_with fail;refine C.mono ?_;rintro e w3 ⟨v,rfl,hc,b3⟩;have Y3:=zh (Y2.below b3);have B3:=zD B2 b3;clear b3 C Z2 H2
 cases R with
 | none=>
   obtain⟨e,he,rfl⟩:=hc;obtain rfl:T=[]:=(by rw[←HT.o];unfold xq;rw[HR.o]);clear HT HR B2 Y2;go_wp2_with(with_reducible refine zS 19 ?_);refine zh (zL Y3 rfl YP ?_);go_wp2_with(with_reducible refine zn ?_);refine zh (zV Y3 rfl _ rfl YP (fun j _=>rfl) ?_);intro w4 Y4 O4;have B4:=zh (B3.trans (O4.below LY.o B3.size));clear O4 Y3 B3;go_wp2_with fail;refine bodyPost_ret (v:=.tuple #[.agg (ah 1 (fun _=>hd0.v)),.int .i64 e]) (by exact zb (u:=7) Y4 rfl rfl YP) rfl ?_;exact⟨hd0,e,rfl,ax.nil _ _,B4.o⟩
 | some m=>
   obtain⟨b,u,rfl,hm,hb,ho⟩:=hc;have M3:=zh hm;have HB:=zh (Yc B2.size hb);have MW:=zh (kU HW.o HR.o);have ag:=zw  (512+d) (by have :=uJ MW.2;omega);have ET:Hid (T=if aU p then gW (je m (512+d) p)else []):=zh (by rw[←HT.o];unfold xq;rw[HR.o])
   have NY:Hid (w1.heap.size≠b):=zh (by
    intro e;obtain⟨_,es,cl,hb,_⟩:=hm;have h2:w3.heap[w1.heap.size]? =some (.cells _ _ _):=Y3.o;rw[e,hb]at h2
    cases h2)
   have CK:Hid (∀W,Calls Tryz.prog 150 #[.int .i64 p] W (zr (.int .i64 (chk p)) W)):=zh (check_any p);clear hm hb ho HT HR B2 Y2;go_wp2_with fail;refine(CK.o _).mono ?_;rintro e w4 ⟨rfl,b4⟩;have B4:=zD B3 b4;have M4:=zh (M3.below b4);have Y4:=zh (Y3.below b4);clear b4 B3 M3 Y3;clear CK
   cases he:aU p with
   | false=>
     rw[show chk p=40 from by unfold chk;rw[he];rfl];obtain rfl:T=[]:=(by rw[ET.o,he];rfl);clear ET he M4 ag;go_wp2_with(with_reducible refine zS 24 ?_);refine zh (zL Y4 rfl YP ?_);go_wp2_with(with_reducible refine zn ?_);refine zh (zV Y4 rfl _ rfl YP (fun j _=>rfl) ?_);intro w5 Y5 O5;have B5:=zh (B4.trans (O5.below LY.o B4.size));clear O5 Y4 B4;go_wp2_with fail;refine bodyPost_ret (v:=.tuple #[.agg (ah 1 (fun _=>hd0.v)),.int .i64 50]) (by exact zb (u:=7) Y5 rfl rfl YP) rfl ?_;exact⟨hd0,50,rfl,ax.nil _ _,B5.o⟩
   | true=>
     rw[show chk p=0 from by unfold chk;rw[he];rfl];obtain rfl:T=gW (je m (512+d) p):=(by rw[ET.o,he];rfl);have ML:=zh (MW.1.put (uJ MW.2) (qW he)).len;clear ET he;go_wp2_with(with_reducible refine zn ?_);refine zh (KM.di kyI rfl 252 3 (.tmp 25) (.tmp 27) (.tmp 28) rfl (512+d) trivial (encI p) rfl rfl rfl M4.o Tryz.underlying252 ?_);intro w5 A5 O5;have M5:Hid (NdT w5 b (je m (512+d) p)):=zh (NdT.je A5.o);have Y5:=zh (O5.row NY.o Y4.o);have B5:=zh (B4.trans (O5.below HB.o B4.size));clear A5 O5 M4 Y4 B4 ag;have C:=zh (rD b _ w5 M5.o (by have :=ML.o;omega));go_wp2_with fail;refine C.mono ?_;rintro e w6 ⟨hd,rfl,ht,b6⟩;have H6:=zh ht;have Y6:=zh (Y5.below b6);have B6:=zD B5 b6;clear ht b6 C M5 Y5 B5;rw[show trA hd=.agg (ah 1 (fun _=>hd.v))from rfl];go_wp2_with(with_reducible refine zn ?_);refine zh (zV Y6 rfl _ rfl YP (fun j _=>rfl) ?_);intro w7 Y7 O7
     have H7:=zh (ax.aB H6.o Y6.o (by decide) O7.o);have B7:=zh (B6.trans (O7.below LY.o B6.size));clear O7 Y6 B6 H6;go_wp2_with fail;refine bodyPost_ret (v:=.tuple #[.agg (ah 1 (fun _=>hd.v)),.int .i64 0]) (by exact zb (u:=7) Y7 rfl rfl YP) rfl ?_;exact⟨hd,0,rfl,H7.o,B7.o⟩
theorem sG(t:Tr)(h:Hd)(d:Int)(w:World)(ht:eY w h t)(hw:TrW t):
 Calls Tryz.prog 137 #[trA h,.int .i64 d] w fun e w'=>∃hd x,e=.returned (.tuple #[trA hd,.int .i64 x])∧eY w' hd (xJ okT t d)∧Below w.heap.size w w':=by
 have HW:=zh hw;have H0:=zh ht;obtain⟨T,hT⟩:=zg (xJ okT t d);have HT:=zh hT;rw[hT];clear ht hw hT;go_in;have B0:=zh (Yb w.heap.size w);go_upto_region 1 with fail;obtain⟨w1,ae,b1,z1,Z1⟩:=zQ w (.cells #[h.v] 49) 49 1 (fun _=>h.v) rfl;rw[ae];(try rw[z1]);have B1:=zD B0 b1;have H1:=zh (H0.below b1);clear b1 ae z1 B0 H0;have LY:=zh B1.size;obtain⟨w2,af,b2,z2,Y2⟩:=zQ w1 (.cells #[.slice none 0 0] 49) 49 1 (fun _=>hd0.v) rfl;rw[af];(try rw[z2]);have B2:=zD B1 b2;have H2:=zh (H1.below b2);have Z2:=zh (Z1.below b2);clear b2 af z2 B1 H1 Z1;have C:=zh (nz t h d true w2 H2.o HW.o);obtain⟨R,hR⟩:=zg (jH okT t d true);have HR:=zh hR;rw[hR]at C;clear hR;go_wp2_with(with_reducible refine zS 9 ?_);refine zh (zL Z2 rfl YP ?_);go_wp2_with fail;refine C.mono ?_;rintro e w3 ⟨v,rfl,hc,b3⟩;have Y3:=zh (Y2.below b3);have B3:=zD B2 b3;clear b3 C Z2 H2
 have TW:Hid (∃(mp:Option Nat) (u:Value) (x:Int),v=.tuple #[.map mp,u,.int .i64 x]∧Calls Tryz.prog 190 #[.map mp] w3 fun e w'=>∃hd,e=.returned (trA hd)∧eY w' hd T∧Below w3.heap.size w3 w'):=zh (by
  cases R with
  | none=>
    obtain⟨e,he,rfl⟩:=hc;obtain rfl:T=[]:=(by rw[←HT.o];unfold xJ;rw[HR.o]);exact⟨_,_,_,rfl,Pm w3⟩
  | some m=>
    obtain⟨b,u,rfl,hm,hb,ho⟩:=hc;obtain rfl:T=gW m:=by rw[←HT.o];unfold xJ;rw[HR.o]
    exact⟨_,_,_,rfl,rD b m w3 hm (by have :=(kU HW.o HR.o).1.len;omega)⟩)
 clear HT HR B2 Y2 hc;obtain⟨mp,u,x,rfl,c⟩:=TW.o;have C:=zh c;clear c TW;go_wp2_with fail;refine C.mono ?_;rintro e w6 ⟨hd,rfl,ht,b6⟩;have H6:=zh ht;have Y6:=zh (Y3.below b6);have B6:=zD B3 b6;clear ht b6 C Y3 B3;rw[show trA hd=.agg (ah 1 (fun _=>hd.v))from rfl];go_wp2_with(with_reducible refine zn ?_);refine zh (zV Y6 rfl _ rfl YP (fun j _=>rfl) ?_);intro w7 Y7 O7;have H7:=zh (ax.aB H6.o Y6.o (by decide) O7.o);have B7:=zh (B6.trans (O7.below LY.o B6.size));clear O7 Y6 B6 H6;go_wp2_with fail;refine bodyPost_ret (v:=.tuple #[.agg (ah 1 (fun _=>hd.v)),.int .i64 x]) (by exact zb (u:=5) Y7 rfl rfl YP) rfl ?_;exact⟨hd,x,rfl,H7.o,B7.o⟩
def tV(m:Tr)(d:Int)(p:List Int)(j:Nat):Tr:=(List.range j).foldl (fun m k=>je m (anc d k) (p.getD k 0)) m
theorem qY(m:Tr)(d:Int)(p:List Int)(j:Nat):tV m d p (j+1)=je (tV m d p j) (anc d j) (p.getD j 0):=by
 unfold tV;rw[List.range_succ,List.foldl_append];rfl
theorem QV(m:Tr)(d:Int)(p:List Int):tV m d p 1=je m (512+d) (p.getD 0 0):=by rw[qY,iw];rfl
theorem anc_in{d:Int}(h:dS d=true){k:Nat}(hk:k≤9):1≤anc d k∧anc d k≤1023:=by
 have h1:=(jT d).1 h;refine⟨JI h1 hk,?_⟩;have h2:anc d k≤512+d:=Int.ediv_le_self _ (by have :=h1.1;omega);have :=h1.2;omega
theorem Jq{m:Tr}(hm:oH m){d:Int}(hd:dS d=true){p:List Int}(hl:p.length=10)(hp:∀y∈p,aU y=true):∀j,j≤10→oH (tV m d p j)
 | 0,_=>hm
 | j+1,h=>by
   rw[qY];exact(Jq hm hd hl hp j (by omega)).put (anc_in hd (by omega)) (qW (hp _ (aK (by omega))))
def RnwO(w w':World)(t:Tr)(d:Int)(p:List Int)(R:Option Tr)(e:Ending):Prop:=∃hd x T,e=.returned (.tuple #[trA hd,.int .i64 x])∧eY w' hd T∧Below w.heap.size w w'∧
 (x=0→R.isSome=true∧p.length=10∧(∀y∈p,aU y=true)∧T=wS okT t d p)
theorem aN.Et{W W':World}{v:Value}{n b:Nat}{c:Nat→Nat→Value}{m:Tr}(hs:aN 1 W v n c)(hM:NdT W b m)(ob:aG b W W'):aN 1 W' v n c:=by
 rcases hs with h | ⟨bb,off,cap,h1,h2,h3,h4,h5,h6⟩
 · exact .inl h
 · have ae:bb≠b:=fun e=>by
    subst e;obtain⟨_,es,cl,hb,_⟩:=hM;have :=h6 0 h3 0 (by decide);simp[World.cell?,hb]at this
   exact .inr ⟨bb,off,cap,h1,h2,h3,h4,Yg h5 ob.size,fun i hi j hj=>(ob.cell (p:=⟨bb,off+1*i+j,none⟩) h5 ae).trans (h6 i hi j hj)⟩
theorem Ij(x:Int)(w:World):Calls Tryz.prog 189 #[.int .i64 x] w (zr (.bool (!aU x)) w):=by
 have C:=zh (check_any x w);have E:Hid (chk x=if aU x then 0 else 40):=zh rfl;obtain⟨b,hb⟩:=zg (aU x);obtain⟨c,hc⟩:=zg (chk x);rw[hc]at C E;rw[hb]at E;rw[hb];clear hb hc;go_in;have B0:=zh (Yb w.heap.size w);go_wp2_with fail;refine(C.o).mono ?_;rintro e w1 ⟨rfl,b1⟩;have B1:=zD B0 b1;clear b1 B0
 cases b with
 | true=>
   obtain rfl:c=0:=E.o;go_wp2_with fail;go_ret;exact⟨rfl,B1.o⟩
 | false=>
   obtain rfl:c=40:=E.o;go_wp2_with fail;go_ret;exact⟨rfl,B1.o⟩
theorem He(t:Tr)(h:Hd)(d:Int)(p:List Int)(pa:Option Addr)(pc:Nat)(w:World)(ht:eY w h t)(hw:TrW t)(hp:aN 1 w (.slice pa p.length pc) p.length (fun i=>bC (p.getD i 0)))(hn:p.length≤1000000):
 Calls Tryz.prog 123 #[trA h,.int .i64 d,.slice pa p.length pc] w fun e w'=>RnwO w w' t d p (jH okT t d true) e:=by
 have HW:=zh hw;have H0:=zh ht;have P0:=zh hp;have QN:=zh hn;obtain⟨n,aj⟩:=zg p.length;have HN:=zh aj;obtain⟨R,hR⟩:=zg (jH okT t d true);have HR:=zh hR;have K:=fun w2 h=>nz t h d true w2;rw[hR]at K ⊢;have KC:=zh K;rw[aj]at P0 QN ⊢;clear ht hw hp hn aj hR K;go_in;have B0:=zh (Yb w.heap.size w);go_upto_region 1 with fail;obtain⟨w1,ay,b1,z1,Z1⟩:=zQ w (.cells #[h.v] 49) 49 1 (fun _=>h.v) rfl;rw[ay];(try rw[z1]);have B1:=zD B0 b1;have H1:=zh (H0.below b1);have P1:=zh (P0.below b1);clear b1 ay z1 B0 H0 P0;have LY:=zh B1.size;obtain⟨w2,az,b2,z2,Y2⟩:=zQ w1 (.cells #[.slice none 0 0] 49) 49 1 (fun _=>hd0.v) rfl;rw[az];(try rw[z2]);have B2:=zD B1 b2;have H2:=zh (H1.below b2);have P2:=zh (P1.below b2);have Z2:=zh (Z1.below b2);clear b2 az z2 B1 H1 P1 Z1;have C:=zh (KC.o w2 h H2.o HW.o);go_wp2_with(with_reducible refine zS 13 ?_);refine zh (zL Z2 rfl YP ?_);go_wp2_with fail;refine C.mono ?_
 rintro e w3 ⟨v,rfl,hc,b3⟩;have Y3:=zh (Y2.below b3);have P3:=zh (P2.below b3);have B3:=zD B2 b3;clear b3 C Z2 H2 P2
 cases R with
 | none=>
   obtain⟨e,he,rfl⟩:=hc;clear HR B2 Y2 P3;go_wp2_with(with_reducible refine zS 21 ?_);refine zh (zL Y3 rfl YP ?_);go_wp2_with(with_reducible refine zn ?_);refine zh (zV Y3 rfl _ rfl YP (fun j _=>rfl) ?_);intro w4 Y4 O4;have B4:=zh (B3.trans (O4.below LY.o B3.size));clear O4 Y3 B3;go_wp2_with fail;refine bodyPost_ret (v:=.tuple #[.agg (ah 1 (fun _=>hd0.v)),.int .i64 e]) (by exact zb (u:=7) Y4 rfl rfl YP) rfl ?_;exact⟨hd0,e,[],rfl,ax.nil _ _,B4.o,fun h=>absurd h he⟩
 | some m=>
   obtain⟨b,u,rfl,hm,hb,ho⟩:=hc;have M3:=zh hm;have O3:=zh (ho.mono B2.size);have HB:=zh (Yc B2.size hb);have MW:=zh (kU HW.o HR.o)
   have NY:Hid (w1.heap.size≠b):=zh (by
    intro e;obtain⟨_,es,cl,hb,_⟩:=hm;have h2:w3.heap[w1.heap.size]? =some (.cells _ _ _):=Y3.o;rw[e,hb]at h2
    cases h2)
   obtain⟨ua,uc,rfl⟩:=ho.slice;rw[show(bW d).length=9 from by simp[bW]]at O3 ⊢;clear hm hb ho B2 Y2;by_cases hl:n=10;rotate_left
   · have d0:((n:Int)!=10)=true:=(by rw[bne_iff_ne];omega);clear hl;go_wp2_with(with_reducible refine zS 30 ?_);refine zh (zL Y3 rfl YP ?_);go_wp2_with(with_reducible refine zn ?_);refine zh (zV Y3 rfl _ rfl YP (fun j _=>rfl) ?_);intro w4 Y4 O4;have B4:=zh (B3.trans (O4.below LY.o B3.size));clear O4 Y3 B3;go_wp2_with fail;refine bodyPost_ret (v:=.tuple #[.agg (ah 1 (fun _=>hd0.v)),.int .i64 50]) (by exact zb (u:=7) Y4 rfl rfl YP) rfl ?_;exact⟨hd0,50,[],rfl,ax.nil _ _,B4.o,fun h=>absurd h (by decide)⟩
   subst hl;have CF:=zh (Il (enters_of Tryz.func189 (by kernel_rfl) rfl) (lb:= #[]) (fun i=> !aU (p.getD i 0)) 10 _ _ w3 P3.o (by decide) (fun i=>⟨_,rfl⟩) (fun i W hi hW=>Ij _ W));obtain⟨r,hr⟩:=zg (jF (fun i=> !aU (p.getD i 0)) 10);have ak:=zh hr;rw[hr]at CF;clear hr
   cases r with
   | true=>
     clear ak;go_wp2_with fail;refine CF.mono ?_;rintro e w4 ⟨rfl,b4⟩;have Y4:=zh (Y3.below b4);have B4:=zD B3 b4;clear b4 CF Y3 B3 M3 P3 O3;go_wp2_with(with_reducible refine zS 30 ?_);refine zh (zL Y4 rfl YP ?_);go_wp2_with(with_reducible refine zn ?_);refine zh (zV Y4 rfl _ rfl YP (fun j _=>rfl) ?_);intro w5 Y5 O5;have B5:=zh (B4.trans (O5.below LY.o B4.size));clear O5 Y4 B4;go_wp2_with fail;refine bodyPost_ret (v:=.tuple #[.agg (ah 1 (fun _=>hd0.v)),.int .i64 50]) (by exact zb (u:=7) Y5 rfl rfl YP) rfl ?_;exact⟨hd0,50,[],rfl,ax.nil _ _,B5.o,fun h=>absurd h (by decide)⟩
   | false=>
     have EL:Hid (∀y∈p,aU y=true):=zh (fun y hy=>by
      obtain⟨i,hi,rfl⟩:=List.getElem_of_mem hy;have :=vT.1 ak.o i (by rw[←HN.o];exact hi);rw[Yd,Yh hi]at this
      simpa using this)
     clear ak;go_wp2_with fail;refine CF.mono ?_;rintro e w4 ⟨rfl,b4⟩;have B4:=zD B3 b4;have M4:=zh (M3.below b4);have Y4:=zh (Y3.below b4);have P4:=zh (P3.below b4);have O4:=zh (O3.below b4);clear b4 B3 M3 Y3 P3 O3;clear CF;obtain⟨pb,af,rfl,ae,hb,hc⟩:=aN.aI (s:=1) (n:=10) (a:=pa) (k:=pc) (c:=fun i=>bC (p.getD i 0)) P4.o (show 0 < 10 by decide);have lk:w4.cell? ⟨pb,af,none⟩=some (.int .i64 (p.getD 0 0)):=hc 0 (by decide) 0 (by decide);have aF:=zw  (512+d) (by have :=uJ MW.2;omega);obtain⟨z,hz⟩:=zg (p.getD 0 0);have HZ:=zh hz;rw[hz]at lk;clear ae hb hc hz;go_wp2_with(with_reducible refine zn ?_);refine zh (KM.di kyI rfl 252 3 (.tmp 31) (.tmp 33) (.tmp 36) rfl (512+d) trivial (encI z) rfl rfl rfl M4.o Tryz.underlying252 ?_);intro w5 A5 O5;have M5:Hid (NdT w5 b (tV m d p 1)):=zh (by rw[QV,HZ.o];exact NdT.je A5.o);have Y5:=zh (O5.row NY.o Y4.o);have P5:=zh (P4.Et M4.o O5.o)
     have U5:=zh (ax.dH O4.o M4.o O5.o);have B5:=zh (B4.trans (O5.below HB.o B4.size));clear A5 O5 M4 Y4 B4 P4 O4 aF lk HZ;go_wp2_with fail;go_loopg [39] 9 (fun g aG wx=>∃i:Nat,i+g=9∧aG=.int .i64 (i:Int)∧Hid (NdT wx b (tV m d p (i+1)))∧Hid (ag wx w1.heap.size 49 1 (fun _=>hd0.v))∧Hid (aN 1 wx (.slice (some ⟨pb,af,none⟩) 10 pc) 10 (fun i=>bC (p.getD i 0)))∧Hid (ax 3 1 bC wx w.heap.size (.slice ua 9 uc) (bW d))∧Hid (Below w.heap.size w wx));case atStart=>exact⟨0,by omega,rfl,M5,Y5,P5,U5,B5⟩
     case round=>
      clear M5 Y5 P5 U5 B5;obtain⟨i,hi,rfl,hM,hY,hP,hU,hB⟩:=hrel;obtain⟨w4,rfl⟩:=zG wr;have q1:=Ye i;by_cases ai:i < 9
      · have d2:decide ((i:Int) < 9)=true:=zt (by omega);have d3:decide (i < 9)=true:=zt (by omega);have q4:(i:Int) < 9:=(by omega);have q5:(i:Int)+1 < 10:=(by omega);have q6:(0:Int)≤(i:Int)+1:=(by omega);have d4:decide ((i:Int)+1 < 10)=true:=zt (by omega);have U4:Hid (aN 1 w4 (.slice ua 9 uc) 9 (fun i=>bC ((bW d).getD i 0))):=zh (by have h:=hU.at' (0:Int) (by decide) (by decide) (by simp[bW]);rwa[show(bW d).length=9 from by simp[bW]]at h);obtain⟨ub,au,rfl,ae,hb,hc⟩:=aN.aI (s:=1) (n:=9) (a:=ua) (k:=uc) (c:=fun i=>bC ((bW d).getD i 0)) U4.o ai;have HI:=zh ai;have lk:w4.cell? ⟨ub,au+i,none⟩=some (.int .i64 ((bW d).getD i 0)):=(by have h:=hc i ai 0 (by decide);rwa[Nat.one_mul]at h);rw[show(bW d).getD i 0=anc d (i+1)from by unfold bW;rw[Yd,Xg,Xh ai];rfl]at lk;clear hc ae hb U4
        obtain⟨pb',aA,e',ae,hb,hc⟩:=aN.aI (s:=1) (n:=10) (a:=some ⟨pb,af,none⟩) (k:=pc) (c:=fun i=>bC (p.getD i 0)) hP.o (show i+1 < 10 by omega)
        have aC:w4.cell? ⟨pb,af+(i+1),none⟩=some (.int .i64 (p.getD (i+1) 0)):=by
         have h:=hc (i+1) (by omega) 0 (by decide);cases e';rwa[Nat.one_mul]at h
        have PK:Hid (tV m d p (i+1+1)=je (tV m d p (i+1)) (anc d (i+1)) (p.getD (i+1) 0)):=zh (qY m d p (i+1));obtain⟨z,hz⟩:=zg (p.getD (i+1) 0);obtain⟨a,ha⟩:=zg (anc d (i+1));rw[hz]at aC PK;rw[ha]at lk PK;clear hc ae hb hz ha ai e';go_wp2_with(with_reducible refine zn ?_);refine zh (KM.di kyI rfl 252 3 (.tmp 44) (.tmp 45) (.tmp 50) rfl a trivial (encI z) rfl rfl rfl hM.o Tryz.underlying252 ?_);intro w6 A6 O6;have M6:Hid (NdT w6 b (tV m d p (i+1+1))):=zh (by rw[PK.o];exact NdT.je A6.o);have Y6:=zh (O6.row NY.o hY.o);have P6:=zh (hP.Et hM.o O6.o);have U6:=zh (ax.dH hU.o hM.o O6.o);have B6:=zh (hB.trans (O6.below HB.o hB.size));clear A6 O6 hM hY hP hU hB PK lk aC;have aH:=zw  ((i:Int)+1) (by have :=HI.o;omega);go_wp2_with fail;go_roundg(9 - (i+1));case measure=>have :=HI.o;omega
        case rel=>
         go_light;exact⟨i+1,by have :=HI.o;omega,by go_num,M6,Y6,P6,U6,B6⟩
      · have d2:decide ((i:Int) < 9)=false:=zT (by omega);have d3:decide (i < 9)=false:=zT (by omega);have M4:Hid (NdT w4 b (tV m d p 10)):=zh (by have h:=hM.o;rwa[show i+1=10 by omega]at h);have Y4:=hY;have B4:=hB;have ML:=zh (Jq MW.1 MW.2 HN.o EL.o 10 (Ya _)).len;have ER:Hid (wS okT t d p=gW (tV m d p 10)):=zh (by unfold wS;rw[HR.o];rfl);clear ai hi q1 hM hY hP hU hB;have C:=zh (rD b _ w4 M4.o (by have :=ML.o;omega));go_wp2_with fail;refine C.mono ?_;rintro e w6 ⟨hd,rfl,ht,b6⟩;have H6:=zh ht;have Y6:=zh (Y4.below b6);have B6:=zD B4 b6;clear ht b6 C M4 Y4 B4;rw[show trA hd=.agg (ah 1 (fun _=>hd.v))from rfl];go_wp2_with(with_reducible refine zn ?_);refine zh (zV Y6 rfl _ rfl YP (fun j _=>rfl) ?_);intro w7 Y7 O7;have H7:=zh (ax.aB H6.o Y6.o (by decide) O7.o);have B7:=zh (B6.trans (O7.below LY.o B6.size));clear O7 Y6 B6 H6;go_wp2_with fail
        refine bodyPost_ret (v:=.tuple #[.agg (ah 1 (fun _=>hd.v)),.int .i64 0]) (by exact zb (u:=7) Y7 rfl rfl YP) rfl ?_;exact⟨hd,0,_,rfl,H7.o,B7.o,fun _=>⟨rfl,HN.o,EL.o,ER.symm⟩⟩
theorem nH(b:Option Nat)(z:Int)(w:World):Calls Tryz.prog 247 #[.map b,.int .i64 z] w fun e w'=>e=.returned (.func (.func 277) #[] #[.pointer (some ⟨w.heap.size,0,none⟩),.pointer (some ⟨w.heap.size+1,0,none⟩)])∧w'=(w.alloc (.cells #[.map b] 252)).alloc (.cells #[.int .i64 z] 3):=by
 have ae:=zM Tryz.prog;go_in;go_wp2_with fail;go_ret;exact⟨by simp,rfl⟩
theorem Body.and{β γ:Type}{B B0:Nat}{J:β→World→Prop}{Fr:World→Nat→Prop}(h:Body B0 J Fr)(hb:B0≤B)(g:γ→β){k:Nat}{o:Obj}(hk:k < B):
 Body B (fun s W=>J (g s) W∧W.heap[k]? =some o∧Fr W k) Fr:=
 ⟨fun s A C row hs hg hr=>⟨(h.up hb).own _ A C row hs.1 hg hr,(hg.block k (Yi.1 hs.2.1).1 (fun e=>by have :=(hr k e.symm).1;omega)).trans hs.2.1,(h.up hb).grow _ A C k row hs.1 hs.2.2 hg hr⟩,
  fun s A k hs hk=>h.fresh _ A k hs.1 hk,fun s A C k row hs hf hg hr=>(h.up hb).grow _ A C k row hs.1 hf hg hr⟩
def Marks(B:Nat)(Fr:World→Nat→Prop)(W:World):List Deferred→Prop
 | []=>True
 | d::ds=>(∃D,B≤D∧d.target=.collected D∧W.heap[D]? =some (.deferred (some []))∧Fr W D∧∀d'∈ds,d'.target≠ .collected D)∧Marks B Fr W ds
theorem Marks.kf{B:Nat}{Fr:World→Nat→Prop}{W W':World}(hk:Kf Fr W W'):∀{ds:List Deferred},Marks B Fr W ds→Marks B Fr W' ds
 | [],_=>trivial
 | d::ds,⟨⟨D,h1,h2,h3,h4,h5⟩,h⟩=>by
   obtain⟨e,f⟩:=hk.same D (Yi.1 h3).1 h4;exact⟨⟨D,h1,h2,e.trans h3,f,h5⟩,Marks.kf hk h⟩
theorem Marks.lt{B:Nat}{Fr:World→Nat→Prop}{W:World}:∀{ds:List Deferred},Marks B Fr W ds→∀d∈ds,∀D,d.target=.collected D→D < W.heap.size
 | d::ds,⟨⟨D,h1,h2,h3,h4,h5⟩,h⟩,d',hd,D',e=>by
   rcases List.mem_cons.1 hd with rfl | hd
   · rw[h2]at e;cases e;exact(Yi.1 h3).1
   · exact Marks.lt h d' hd D' e
theorem Marks.more{B D:Nat}{Fr:World→Nat→Prop}{W W':World}{ds:List Deferred}(h:Marks B Fr W ds)(hk:Kf Fr W W')(hB:B≤D)(hD:W.heap.size≤D)(ho:W'.heap[D]? =some (.deferred (some [])))(hf:Fr W' D):Marks B Fr W' ({target:=.collected D,args:= #[]}::ds):=
 ⟨⟨D,hB,rfl,ho,hf,fun d' hd e=>by have :=h.lt d' hd D e;omega⟩,Marks.kf hk h⟩
theorem kH{β:Type}{P:Program}{fn:Func}{tmps:Array Value}{W0:World}{J:β→World→Prop}{Fr:World→Nat→Prop}(hJ:Body W0.heap.size J Fr)(hr:fn.results= #[]):
 ∀(ds:List Deferred) {s:β} (W:World),Marks W0.heap.size Fr W ds→J s W→Kf Fr W0 W→LeavesInM Fence.wide 5 P fn tmps (fun e W'=>(∃v,e=.returned v)∧(∃xs,xs=s∧J xs W')∧Kf Fr W0 W') ds .returning W
 | [],s,W,_,h,hk=>⟨_,results_none hr _ _ _,⟨_,rfl⟩,⟨s,rfl,h⟩,hk⟩
 | d::ds,s,W,⟨⟨D,h1,h2,h3,h4,h5⟩,hm⟩,h,hk=>by
   obtain⟨j,f⟩:=hJ.put h (.deferred none) h1 h3 rfl;refine⟨by simp,.inl ⟨D,_,h2,run_takeDeferred h3,kH hJ hr ds _ ?_ j ⟨by have :=hk.size;simp[World.putObj];omega,fun k af hf=>?_⟩⟩⟩
   · have key:∀ds:List Deferred,(∀d'∈ds,d'.target≠ .collected D)→Marks W0.heap.size Fr W ds→Marks W0.heap.size Fr (W.putObj D (.deferred none)) ds:=by
      intro ds
      induction ds with
      | nil=>exact fun _ _=>trivial
      | cons e es ih=>
        rintro ae ⟨⟨D',g1,g2,g3,g4,g5⟩,ag⟩;exact⟨⟨D',g1,g2,(World.putObj_heap_other (fun e'=>ae e (List.mem_cons_self ..) (by rw[g2,e']))).trans g3,f _ g4,g5⟩,ih (fun d' hd=>ae d' (List.mem_cons_of_mem _ hd)) ag⟩
     exact key ds h5 hm
   · obtain⟨e1,g1⟩:=hk.same k af hf;exact⟨(World.putObj_heap_other (by omega)).trans e1,f k g1⟩
def tC(C:Nat→List Int):Nat→List Int
 | 0=>[]
 | i+1=>tC C i++C i
def Gu(P:Program)(k n:Nat)(ops:Array Oper)(rest:List Oper)(Q:Exit→Act→World→Prop):Exit→Act→World→Prop:=fun e a w=>match e with
 | .normal=>wpListIn (Fence.wide.inRound k) n P ops Q rest a w
 | .outgrown=>False
 | e=>Q e a w
theorem uponIn_round{k n:Nat}{P:Program}{o:Oper}{a:Act}{next next':Act→World→Prop}{Q Q':Exit→Act→World→Prop}(hQ:¬LetsOut Q)(hp:∀c a w,Q (.panic c) a w→Q' (.panic c) a w)(hn:∀a w,next a w→next' a w){r:Result Next}(h:o.upon P a next Q r):
 o.uponIn (Fence.wide.inRound k) n P a next' Q' r:=by
 unfold Oper.upon at h;unfold Oper.uponIn;split at h
 · exact hn _ _ h
 · exact hn _ _ h
 · exact hn _ _ h
 · refine⟨fun e=>(by cases e),?_⟩;refine CallsIn.inRound k (callsIn_wide.2 (h.mono ?_));rintro(v | c | _) w' hw
   · exact hn _ _ hw
   · exact hp _ _ _ hw
   · exact absurd hw hQ
 · rename_i row args w';refine⟨fun e=>(by cases e),fun c cs hr=>?_⟩;obtain⟨v,w2,h1,h2⟩:=h c cs;exact⟨v,w2,hn _ _ h1,stepsIn_wide.2 h2⟩
 · exact hp _ _ _ h
 · exact h.elim
theorem kN{k n:Nat}{P:Program}{ops:Array Oper}{Q:Exit→Act→World→Prop}{rest:List Oper}:∀(l:List Oper) (a:Act) (w:World),l.all iU=true→wpList P ops (Gu P k n ops rest Q) l a w→wpListIn (Fence.wide.inRound k) n P ops Q (l++rest) a w
 | [],a,w,_,h=>h
 | o::l,a,w,hd,h=>by
   have hQ:¬LetsOut (Gu P k n ops rest Q):=fun⟨_,_,h⟩=>h;rw[List.all_cons,Bool.and_eq_true]at hd;unfold wpList at h;show wpListIn (Fence.wide.inRound k) n P ops Q (o::(l++rest)) a w;unfold wpListIn;split
   · rename_i hw;rw[if_pos hw]at h;rcases h with h | ⟨_,h⟩
     · refine⟨fun _ _=>trivial,?_⟩
       rw[show(Fence.wide.inRound k).round=some k from rfl,Oper.semAt_some k _ _ (fun c hc=>by
        have :=hd.1;unfold iU at this;rw[hc]at this;cases this)]
       unfold Oper.wp at h;exact uponIn_round (Q:=Gu P k n ops rest Q) (Q':=Q) (next:=wpList P ops (Gu P k n ops rest Q) l) hQ (fun c a w h=>h) (fun a w h=>kN l a w hd.2 h) h
     · exact absurd h hQ
   · rename_i hw;rw[if_neg hw]at h;exact⟨fun _ _=>trivial,kN l _ _ hd.2 h⟩
theorem mZ{k n:Nat}{P:Program}{ops:Array Oper}{Q:Exit→Act→World→Prop}{L:List Oper}(q:Nat){a:Act}{w:World}(hd:(L.take q).all iU=true)(h:wpList P ops (Gu P k n ops (L.drop q) Q) (L.take q) a w):wpListIn (Fence.wide.inRound k) n P ops Q L a w:=by
 have :=kN (n:=n) _ a w hd h;rwa[List.take_append_drop]at this
def QC(b:Nat)(m:Tr)(z:Int)(A:List Int):Prop:=∀(n B1 B2:Nat) (w:World),ag w B1 252 1 (fun _=>.map (some b))→ag w B2 3 1 (bC z)→NdT w b m→
 tX n Tryz.prog 277 #[.pointer (some ⟨B1,0,none⟩),.pointer (some ⟨B2,0,none⟩)] Pq (fun _ _=>True) (fun k=>k=b∨k=B1) (fun xs=>xs=A) A.length w
theorem res_one(b:Nat)(m:Tr)(z:Int)(C:Nat→List Int)(hz:1≤z∧z≤1023)(ih:z < 512→∀i:Nat,i < 2→QC b m (2*z+(i:Int)) (C i)):
 QC b m z (if(Top.look m z).isSome then [z]else if 512≤z then []else C 0++C 1):=by
 intro n B1 B2 w aG aH hm l J Fr W hW hJ hN hY h0;show Calls _ _ #[.func (.yield l) #[] #[],.pointer (some ⟨B1,0,none⟩),.pointer (some ⟨B2,0,none⟩)] W _;have M0:=zh (KM.At.below hm hW);have R1:=zh (aG.below hW);have R2:=zh (aH.below hW);have HY:=zh hY;have HJ:=zh hJ;have J0:Hid (J [] W):=zh h0;have F0:Hid (Fr W b∧Fr W B1):=zh ⟨hN b (.inl rfl),hN B1 (.inr rfl)⟩;have IH:=zh ih;have HZ:=zh hz;have x0:W.cell? ⟨B1,0,none⟩=some (.map (some b)):=R1.cell (i:=0) (by decide);have x1:W.cell? ⟨B2,0,none⟩=some (.int .i64 z):=R2.cell (i:=0) (by decide);obtain⟨R,hR⟩:=zg ((if(Top.look m z).isSome then [z]else if 512≤z then []else C 0++C 1));have HR:=zh hR;rw[hR]at HY ⊢;clear hm aG aH hW hJ hN hY h0 ih hz hR;refine dX Tryz.func277 rfl ?_
 simp only[Tryz.ntmps277,List.size_toArray,Yr,Xc,Nat.reduceAdd,Nat.reduceSub,Array.replicate_succ,Array.replicate_zero,List.push_toArray,List.append_toArray,List.nil_append,List.cons_append];go_upto_region 1 with fail;have b1:Below W.heap.size W (W.alloc (.cells #[.func (.yield l) #[] #[]] 172)):=(Yb _ _).alloc (Ya _) _;have T1:Hid (ag (W.alloc (.cells #[.func (.yield l) #[] #[]] 172)) W.heap.size 172 1 (fun _=>.func (.yield l) #[] #[])):=zh (ag.new W 172 1 (fun _=>.func (.yield l) #[] #[]));obtain⟨w1,aI⟩:=zg (W.alloc (.cells #[.func (.yield l) #[] #[]] 172));rw[aI]at b1 T1 ⊢;have J1:=zh (HJ.below J0.o b1);have K1:=zh (HJ.kf J0.o b1);have F1:Hid (Fr w1 b∧Fr w1 B1∧Fr w1 W.heap.size):=zh ⟨(K1.same b M0.lt F0.1).2,(K1.same B1 R1.lt F0.2).2,HJ.grow _ _ _ _ none J0.o (HJ.fresh _ _ _ J0.o (Ya _)) (bD b1) (fun r e=>by cases e)⟩;have M1:=zh (KM.At.below M0.o b1);have S1:=zh (R1.below b1)
 have V1:=zh (R2.below b1);have x0:w1.cell? ⟨B1,0,none⟩=some (.map (some b)):=S1.cell (i:=0) (by decide);have x1:w1.cell? ⟨B2,0,none⟩=some (.int .i64 z):=V1.cell (i:=0) (by decide);have x2:w1.cell? ⟨W.heap.size,0,none⟩=some (.func (.yield l) #[] #[]):=T1.cell (i:=0) (by decide);clear b1 aI J0 F0 M0 R1 R2;go_wp2_with(with_reducible refine zS 12 ?_);refine zh (KM.dJ kyI rfl 252 3 (.tmp 10) (.tmp 11) true rfl z trivial rfl rfl M1.o Tryz.underlying252 kY ?_);rw[jL,if_pos rfl];obtain⟨r,hr⟩:=zg (Top.look m z);rw[hr]at HR ⊢;clear hr
 cases r with
 | some y=>
   obtain rfl:R=[z]:=HR.symm;clear HR IH;have af:=zh (HY.o [] z w1 J1.o trivial Nat.zero_lt_one);go_upto_region 3 with fail;refine(wpIn_wide (n:=n)).1 (wpIn_region_lit (bV 2 ?_));simp only[Xe,List.take_zero,Xf,List.drop_zero];go_wp2_with fail;unfold lF;dsimp only;refine dY rfl (.tmp 16) #[.tmp 17] #[3] rfl l rfl #[.int .i64 z] rfl af.o ?_;clear af;rintro e w4 ⟨rfl,aJ,aK⟩;have J4:=zh aJ;have K4:=zh (K1.trans aK);clear aJ aK J1 F1 M1 S1 V1 T1 x0 x1 x2 K1;refine⟨_,rfl,bV 0 ?_⟩;simp only[List.take_zero,List.drop_zero];go_wp2_with fail;unfold lF;dsimp only;unfold wpListIn;go_wp2_with fail;exact kH HJ.o rfl [] _ trivial J4.o K4.o
 | none=>
   by_cases h5:512≤z
   · obtain rfl:R=[]:=(by rw[←HR.o,if_neg (by simp),if_pos h5]);have d0:decide (512≤z)=true:=zt h5;clear HR IH h5;go_wp2_with fail;exact kH HJ.o rfl [] _ trivial J1.o K1.o
   · obtain rfl:R=C 0++C 1:=(by rw[←HR.o,if_neg (by simp),if_neg h5]);have d0:decide (512≤z)=false:=zT h5;have I2:=zh (IH.o (by omega));have aT:=zw  (2*z) (by have :=HZ.o;omega);have aU:=zw  (2*z+1) (by have :=HZ.o;omega);have RC:=zh nH;clear HR IH h5 V1;go_wp2_with fail
     refine wp_loop_ghost_k (fun gk a wx=>∃(i:Nat) (u7 u8 aN aO aP aQ u32 aS az aA aB aC aF:Value) (ds:List Deferred),i+gk=2∧a={tmps:= #[.func (.yield l) #[] #[],.pointer (some ⟨B1,0,none⟩),.pointer (some ⟨B2,0,none⟩),.pointer (some ⟨W.heap.size,0,none⟩),.int .i64 0,.bool false,undef,u7,u8,.tuple #[.int .i64 0,.bool false],.map (some b),.int .i64 z,.tuple #[.int .i64 0,.bool false],.int .i64 0,.bool false,.bool false,undef,undef,undef,.int .i64 z,.bool false,.int .i64 z,.int .i64 (2*z),.int .i64 z,.int .i64 (2*z),.int .i64 (2*z+1),.agg #[.int .i64 (2*z),.int .i64 (2*z+1)],.int .i64 (i:Int),aN,aO,aP,aQ,u32,aS,az,aA,aB,aC,aF],defers:=ds}∧Hid (J (tC C i) wx)∧Hid (Marks W.heap.size Fr wx ds)∧Hid (Kf Fr w1 wx)) 2 ⟨0,_,_,_,_,_,_,_,_,_,_,_,_,_,[],rfl,rfl,J1,zh trivial,zh (Kf.refl Fr w1)⟩ ?_;rintro gk a w4 ⟨i,u7,u8,aN,aO,aP,aQ,u32,aS,az,aA,aB,aC,aF,ds,hg,rfl,hJ,hM,hK⟩;intro _ _ _ _;have HG:=zh hg
     have x0:w4.cell? ⟨B1,0,none⟩=some (.map (some b)):=by
      have h:ag w4 B1 252 1 (fun _=>.map (some b)):=(hK.same B1 S1.lt F1.2.1).1.trans S1.o;exact h.cell (i:=0) (by decide)
     clear x1 x2 J1;by_cases hi:i < 2
     · obtain hi2 | hi2:i=0∨i=1:=by omega
       · subst hi2;clear hi hg;have IC:Hid (QC b m (2*z) (C 0)):=zh (by have h:=I2.o 0 (by decide);simpa using h);have ix:∀w,(Instr.index 317 (.agg #[.int .i64 (2*z),.int .i64 (2*z+1)]) (.int .i64 0)).run Tryz.prog w=.ok (.int .i64 (2*z)) w:=fun _=>(by kernel_rfl);go_wp2_with fail;refine(RC.o _ _ w4).mono ?_;rintro e w3 ⟨rfl,rfl⟩;have b3:Below w4.heap.size w4 ((w4.alloc (.cells #[.map (some b)] 252)).alloc (.cells #[.int .i64 (2*z)] 3)):=((Yb _ w4).alloc (Ya _) _).alloc (by simp) _;have Y1:Hid (ag ((w4.alloc (.cells #[.map (some b)] 252)).alloc (.cells #[.int .i64 (2*z)] 3)) w4.heap.size 252 1 (fun _=>.map (some b))):=zh ((ag.new w4 252 1 (fun _=>.map (some b))).below ((Yb _ _).alloc (Ya _) _))
         have Y2:Hid (ag ((w4.alloc (.cells #[.map (some b)] 252)).alloc (.cells #[.int .i64 (2*z)] 3)) (w4.heap.size+1) 3 1 (bC (2*z))):=zh (by
          have h:=ag.new (w4.alloc (.cells #[.map (some b)] 252)) 3 1 (bC (2*z))
          rwa[Xi]at h)
         obtain⟨w5,aj⟩:=zg ((w4.alloc (.cells #[.map (some b)] 252)).alloc (.cells #[.int .i64 (2*z)] 3));rw[aj]at b3 Y1 Y2 ⊢;have J5:=zh (HJ.below hJ.o b3);have k5:=HJ.kf hJ.o b3;have ak:=zh (hM.kf k5);have K5:=zh (hK.trans k5);have N5:Hid (Fr w5 w4.heap.size):=zh (HJ.grow _ _ _ _ none hJ.o (HJ.fresh _ _ _ hJ.o (Ya _)) (bD b3) (fun r e=>by cases e));have F5:Hid (Fr w5 b∧Fr w5 W.heap.size):=zh ⟨(K5.same b M1.lt F1.1).2,(K5.same _ T1.lt F1.2.2).2⟩;have T5:Hid (ag w5 W.heap.size 172 1 (fun _=>.func (.yield l) #[] #[])):=zh ((K5.same _ T1.lt F1.2.2).1.trans T1.o);have M5:=zh (M1.of_block (K5.same b M1.lt F1.1).1);have ah:Hid (W.heap.size < w5.heap.size):=zh T5.lt;have IQ:=zh (IC.o (n+1) w4.heap.size (w4.heap.size+1) w5 Y1.o Y2.o M5.o);obtain⟨dn,ae⟩:=zg (tC C 0);have DN:Hid (dn.length+(C 0).length≤(C 0++C 1).length):=zh (by rw[←ae];simp[tC];try omega)
         have DS:Hid (tC C (0+1)=dn++C 0):=zh (by rw[←ae];rfl);rw[ae]at J5;clear ae b3 k5 aj hJ hM hK IC x0 Y1 Y2 M5 ix;go_wp2_with fail
         refine(wpIn_wide (n:=n+2)).1 (fP (by omega) (gf:=277) (lb:= #[.pointer (some ⟨w4.heap.size,0,none⟩),.pointer (some ⟨w4.heap.size+1,0,none⟩)]) rfl (enters_of Tryz.func277 (by kernel_rfl) rfl) IQ.o (Yb _ _) (fun _=>rfl)
          (fun pre W'=>J (dn++pre) W'∧ag W' W.heap.size 172 1 (fun _=>.func (.yield l) #[] #[])∧Fr W' W.heap.size) Fr (Body.and HJ.o (Yv ah.o) (fun pre=>dn++pre) ah.o)
          (fun k hk=>by rcases hk with rfl | rfl;exact F5.1;exact N5.o) ⟨by rw[List.append_nil];exact J5.o,T5.o,F5.2⟩
          (fun x a' W'=>a'={tmps:= #[.func (.yield l) #[] #[],.pointer (some ⟨B1,0,none⟩),.pointer (some ⟨B2,0,none⟩),.pointer (some ⟨W.heap.size,0,none⟩),.int .i64 0,.bool false,undef,.int .i64 (2*z),.int .i64 x,.tuple #[.int .i64 0,.bool false],.map (some b),.int .i64 z,.tuple #[.int .i64 0,.bool false],.int .i64 0,.bool false,.bool false,undef,undef,undef,.int .i64 z,.bool false,.int .i64 z,.int .i64 (2*z),.int .i64 z,.int .i64 (2*z),.int .i64 (2*z+1),.agg #[.int .i64 (2*z),.int .i64 (2*z+1)],.int .i64 0,.bool true,.int .i64 (2*z),.map (some b),.int .i64 (2*z),.func (.func 277) #[] #[.pointer (some ⟨w4.heap.size,0,none⟩),.pointer (some ⟨w4.heap.size+1,0,none⟩)],.int .i64 x,az,aA,aB,aC,aF],defers:=[]}) ?hAx ?assign ?body ?done)
         case hAx=>exact fun x a' s W W' row h _ _=>h
         case assign=>
          intro l' pre x W' K hI hD au hK;refine bU (fun⟨_,_,h⟩=>h) rfl ?_;have HK:=zh hK;clear hI hD hK;go_wp2_with fail;exact HK.o _ W' (Yb _ _) rfl
         case body=>
          rintro l' pre x a' W' hl hr hI rfl hlen au;have x2:W'.cell? ⟨W.heap.size,0,none⟩=some (.func (.yield l) #[] #[]):=hI.2.1.cell (i:=0) (by decide);have af:=zh (HY.o (dn++pre) x W' hI.1 trivial (by have :=DN.o;rw[Yf];omega));have HI:=zh hI;clear hI hlen au hl hr;refine wpIn_block (wpIn_seq (wpIn_region_lit (mZ 2 rfl ?_)));simp only[Xe,List.take_zero,Xf,List.drop_zero];go_wp2_with fail;unfold Gu;dsimp only;refine lZ rfl (.tmp 34) #[.tmp 35] #[3] rfl l rfl #[.int .i64 x] rfl af.o ?_;clear af;rintro e w6 ⟨rfl,ax,ai⟩
          have I6:Hid ((J (dn++(pre++[x])) w6∧ag w6 W.heap.size 172 1 (fun _=>.func (.yield l) #[] #[])∧Fr w6 W.heap.size)∧Kf Fr W' w6):=zh (by
           obtain⟨e1,g1⟩:=ai.same _ HI.2.1.lt HI.2.2
           exact⟨⟨by rw[←Xa];exact ax,e1.trans HI.2.1,g1⟩,ai⟩)
          clear ax ai HI x2;refine⟨_,rfl,jr (fun⟨_,_,h⟩=>(by cases h.1)) _ _ _ rfl ?_⟩;go_wp2_with fail;refine wpIn_cond_false rfl (wpIn_skip ?_);exact⟨rfl,I6.1,I6.2⟩
         case done =>
          intro D xs W' hD hS hI hF hK ay;subst hS;have J6:Hid (J (tC C (0+1)) W'):=zh (by rw[DS.o];exact hI.1);have M6:Hid (Marks W.heap.size Fr W' ({target:=.collected D,args:= #[]}::ds)):=zh (ak.more hF (Yc (Yv ah.o) hD) hD hK ay);have K6:=zh (K5.trans hF);clear hI hF hK ay hD J5 ak K5 N5 F5 T5 IQ DN DS HY;go_wp2_with fail;refine Handed.intro 1 (by have :=HG.o;omega) ?_;go_step;exact⟨0+1,_,_,_,_,_,_,_,_,_,_,_,_,_,_,by decide,rfl,J6,M6,K6⟩
       · subst hi2;clear hi hg;have IC:Hid (QC b m (2*z+1) (C 1)):=zh (by have h:=I2.o 1 (by decide);simpa using h);have ix:∀w,(Instr.index 317 (.agg #[.int .i64 (2*z),.int .i64 (2*z+1)]) (.int .i64 1)).run Tryz.prog w=.ok (.int .i64 (2*z+1)) w:=fun _=>(by kernel_rfl);go_wp2_with fail;refine(RC.o _ _ w4).mono ?_;rintro e w3 ⟨rfl,rfl⟩;have b3:Below w4.heap.size w4 ((w4.alloc (.cells #[.map (some b)] 252)).alloc (.cells #[.int .i64 (2*z+1)] 3)):=((Yb _ w4).alloc (Ya _) _).alloc (by simp) _;have Y1:Hid (ag ((w4.alloc (.cells #[.map (some b)] 252)).alloc (.cells #[.int .i64 (2*z+1)] 3)) w4.heap.size 252 1 (fun _=>.map (some b))):=zh ((ag.new w4 252 1 (fun _=>.map (some b))).below ((Yb _ _).alloc (Ya _) _))
         have Y2:Hid (ag ((w4.alloc (.cells #[.map (some b)] 252)).alloc (.cells #[.int .i64 (2*z+1)] 3)) (w4.heap.size+1) 3 1 (bC (2*z+1))):=zh (by
          have h:=ag.new (w4.alloc (.cells #[.map (some b)] 252)) 3 1 (bC (2*z+1))
          rwa[Xi]at h)
         obtain⟨w5,aj⟩:=zg ((w4.alloc (.cells #[.map (some b)] 252)).alloc (.cells #[.int .i64 (2*z+1)] 3));rw[aj]at b3 Y1 Y2 ⊢;have J5:=zh (HJ.below hJ.o b3);have k5:=HJ.kf hJ.o b3;have ak:=zh (hM.kf k5);have K5:=zh (hK.trans k5);have N5:Hid (Fr w5 w4.heap.size):=zh (HJ.grow _ _ _ _ none hJ.o (HJ.fresh _ _ _ hJ.o (Ya _)) (bD b3) (fun r e=>by cases e));have F5:Hid (Fr w5 b∧Fr w5 W.heap.size):=zh ⟨(K5.same b M1.lt F1.1).2,(K5.same _ T1.lt F1.2.2).2⟩;have T5:Hid (ag w5 W.heap.size 172 1 (fun _=>.func (.yield l) #[] #[])):=zh ((K5.same _ T1.lt F1.2.2).1.trans T1.o);have M5:=zh (M1.of_block (K5.same b M1.lt F1.1).1);have ah:Hid (W.heap.size < w5.heap.size):=zh T5.lt;have IQ:=zh (IC.o (n+1) w4.heap.size (w4.heap.size+1) w5 Y1.o Y2.o M5.o);obtain⟨dn,ae⟩:=zg (tC C 1);have DN:Hid (dn.length+(C 1).length≤(C 0++C 1).length):=zh (by rw[←ae];simp[tC];try omega)
         have DS:Hid (tC C (1+1)=dn++C 1):=zh (by rw[←ae];rfl);rw[ae]at J5;clear ae b3 k5 aj hJ hM hK IC x0 Y1 Y2 M5 ix;go_wp2_with fail
         refine(wpIn_wide (n:=n+2)).1 (fP (by omega) (gf:=277) (lb:= #[.pointer (some ⟨w4.heap.size,0,none⟩),.pointer (some ⟨w4.heap.size+1,0,none⟩)]) rfl (enters_of Tryz.func277 (by kernel_rfl) rfl) IQ.o (Yb _ _) (fun _=>rfl)
          (fun pre W'=>J (dn++pre) W'∧ag W' W.heap.size 172 1 (fun _=>.func (.yield l) #[] #[])∧Fr W' W.heap.size) Fr (Body.and HJ.o (Yv ah.o) (fun pre=>dn++pre) ah.o)
          (fun k hk=>by rcases hk with rfl | rfl;exact F5.1;exact N5.o) ⟨by rw[List.append_nil];exact J5.o,T5.o,F5.2⟩
          (fun x a' W'=>a'={tmps:= #[.func (.yield l) #[] #[],.pointer (some ⟨B1,0,none⟩),.pointer (some ⟨B2,0,none⟩),.pointer (some ⟨W.heap.size,0,none⟩),.int .i64 0,.bool false,undef,.int .i64 (2*z+1),.int .i64 x,.tuple #[.int .i64 0,.bool false],.map (some b),.int .i64 z,.tuple #[.int .i64 0,.bool false],.int .i64 0,.bool false,.bool false,undef,undef,undef,.int .i64 z,.bool false,.int .i64 z,.int .i64 (2*z),.int .i64 z,.int .i64 (2*z),.int .i64 (2*z+1),.agg #[.int .i64 (2*z),.int .i64 (2*z+1)],.int .i64 1,.bool true,.int .i64 (2*z+1),.map (some b),.int .i64 (2*z+1),.func (.func 277) #[] #[.pointer (some ⟨w4.heap.size,0,none⟩),.pointer (some ⟨w4.heap.size+1,0,none⟩)],.int .i64 x,az,aA,aB,aC,aF],defers:=[]}) ?hAx ?assign ?body ?done)
         case hAx=>exact fun x a' s W W' row h _ _=>h
         case assign=>
          intro l' pre x W' K hI hD au hK;refine bU (fun⟨_,_,h⟩=>h) rfl ?_;have HK:=zh hK;clear hI hD hK;go_wp2_with fail;exact HK.o _ W' (Yb _ _) rfl
         case body=>
          rintro l' pre x a' W' hl hr hI rfl hlen au;have x2:W'.cell? ⟨W.heap.size,0,none⟩=some (.func (.yield l) #[] #[]):=hI.2.1.cell (i:=0) (by decide);have af:=zh (HY.o (dn++pre) x W' hI.1 trivial (by have :=DN.o;rw[Yf];omega));have HI:=zh hI;clear hI hlen au hl hr;refine wpIn_block (wpIn_seq (wpIn_region_lit (mZ 2 rfl ?_)));simp only[Xe,List.take_zero,Xf,List.drop_zero];go_wp2_with fail;unfold Gu;dsimp only;refine lZ rfl (.tmp 34) #[.tmp 35] #[3] rfl l rfl #[.int .i64 x] rfl af.o ?_;clear af;rintro e w6 ⟨rfl,ax,ai⟩
          have I6:Hid ((J (dn++(pre++[x])) w6∧ag w6 W.heap.size 172 1 (fun _=>.func (.yield l) #[] #[])∧Fr w6 W.heap.size)∧Kf Fr W' w6):=zh (by
           obtain⟨e1,g1⟩:=ai.same _ HI.2.1.lt HI.2.2
           exact⟨⟨by rw[←Xa];exact ax,e1.trans HI.2.1,g1⟩,ai⟩)
          clear ax ai HI x2;refine⟨_,rfl,jr (fun⟨_,_,h⟩=>(by cases h.1)) _ _ _ rfl ?_⟩;go_wp2_with fail;refine wpIn_cond_false rfl (wpIn_skip ?_);exact⟨rfl,I6.1,I6.2⟩
         case done =>
          intro D xs W' hD hS hI hF hK ay;subst hS;have J6:Hid (J (tC C (1+1)) W'):=zh (by rw[DS.o];exact hI.1);have M6:Hid (Marks W.heap.size Fr W' ({target:=.collected D,args:= #[]}::ds)):=zh (ak.more hF (Yc (Yv ah.o) hD) hD hK ay);have K6:=zh (K5.trans hF);clear hI hF hK ay hD J5 ak K5 N5 F5 T5 IQ DN DS HY;go_wp2_with fail;refine Handed.intro 0 (by have :=HG.o;omega) ?_;go_step;exact⟨1+1,_,_,_,_,_,_,_,_,_,_,_,_,_,_,by decide,rfl,J6,M6,K6⟩
     · obtain rfl:i=2:=(by omega);have J6:Hid (J (C 0++C 1) w4):=zh (by have h:=hJ.o;rwa[show tC C 2=C 0++C 1 from by simp[tC]]at h);have K6:=zh (K1.trans hK.o);clear hi hg hJ hK x0;go_wp2_with fail;have h:=fun tm=>kH (P:=Tryz.prog) (tmps:=tm) (fn:=Tryz.f277) HJ.o rfl ds _ hM.o J6.o K6.o;simp only[exists_eq_left]at h;exact h _
theorem qI(m:Tr):∀(q:Nat) (z:Int),(oV m q z).length≤2^q
 | 0,z=>by unfold oV;split<;>simp
 | q+1,z=>by
   have h1:=qI m q (2*z);have h2:=qI m q (2*z+1);have h3:1≤2^q:=Nat.one_le_two_pow;unfold oV;rw[Nat.pow_succ];split
   · simp;omega
   · split
     · simp
     · rw[Yf];omega
theorem JK(b:Nat)(m:Tr):∀(q:Nat) (z:Int),1≤z∧z≤1023→512≤z*2^q→QC b m z (oV m q z)
 | 0,z,hz,h=>by
   have h5:512≤z:=(by simpa using h);have :=res_one b m z (fun _=>[]) hz (fun h=>by omega);rw[if_pos h5]at this;exact this
 | q+1,z,hz,h=>by
   have :=res_one b m z (fun i=>oV m q (2*z+(i:Int))) hz (fun h5 i hi=>by
    refine JK b m q _ ⟨by omega,by omega⟩ ?_;have h2:(0:Int) < 2^q:=Int.pow_pos (by decide);rw[Int.pow_succ]at h;have h3:2*z*2^q≤(2*z+(i:Int))*2^q:=Int.mul_le_mul_of_nonneg_right (by omega) (Int.le_of_lt h2);have h4:2*z*2^q=z*(2^q*2):=by rw[Int.mul_comm 2 z,Int.mul_assoc,Int.mul_comm 2]
    omega)
   unfold oV;simpa using this
def qG(t:Tr)(z:Int):List Int:=if okT t&&(decide (1≤z)&&decide (z≤1023))then oV (ofL t) 9 z else []
def ResO(w w':World)(l:List Int)(e:Ending):Prop:=∃u x,e=.returned (.tuple #[u,.int .i64 x])∧ax 3 1 bC w' w.heap.size u l∧Below w.heap.size w w'
theorem Vo(t:Tr)(h:Hd)(z:Int)(w:World)(ht:eY w h t)(hw:TrW t):
 Calls Tryz.prog 212 #[trA h,.int .i64 z] w fun e w'=>ResO w w' (qG t z) e:=by
 have HW:=zh hw;have H0:=zh ht;have ER:Hid (qG t z=if okT t&&(decide (1≤z)&&decide (z≤1023))then oV (ofL t) 9 z else []):=zh rfl;obtain⟨R,hR⟩:=zg (qG t z);rw[hR]at ER ⊢;clear ht hw hR;go_in;have B0:=zh (Yb w.heap.size w);go_upto_region 1 with fail;obtain⟨w1,ae,b1,z1,Z1⟩:=zQ w (.cells #[h.v] 49) 49 1 (fun _=>h.v) rfl;rw[ae];(try rw[z1]);have B1:=zD B0 b1;have H1:=zh (H0.below b1);clear b1 ae z1 B0 H0;have C:=zh (oW t h w1 H1.o HW.o);go_wp2_with(with_reducible refine zS 7 ?_);refine zh (zL Z1 rfl YP ?_);go_wp2_with fail;refine(C.o).mono ?_;rintro e w2 ⟨rfl,b2⟩;have B2:=zD B1 b2;have H2:=zh (H1.below b2);have Z2:=zh (Z1.below b2);clear b2 B1 H1 Z1;clear C;cases hk:okT t
 · obtain rfl:R=[]:=(by rw[ER.o,hk];rfl);rw[if_neg Bool.false_ne_true];clear hk ER;go_wp2_with fail;go_ret2;exact⟨_,_,rfl,ax.nil _ _,B2.o⟩
 rw[if_pos rfl];rw[hk,Bool.true_and]at ER;clear hk;by_cases h1:z < 1
 · have d0:decide (z < 1)=true:=zt h1;obtain rfl:R=[]:=(by rw[ER.o,if_neg];simp;omega);clear h1 ER;go_wp2_with fail;go_ret2;exact⟨_,_,rfl,ax.nil _ _,B2.o⟩
 have d0:decide (z < 1)=false:=zT h1;by_cases h2:1023 < z
 · have d1:decide (1023 < z)=true:=zt h2;obtain rfl:R=[]:=(by rw[ER.o,if_neg];simp;omega);clear h1 h2 ER;go_wp2_with fail;go_ret2;exact⟨_,_,rfl,ax.nil _ _,B2.o⟩
 have d1:decide (1023 < z)=false:=zT h2;have HZ:Hid (1≤z∧z≤1023):=zh ⟨by omega,by omega⟩;obtain rfl:R=oV (ofL t) 9 z:=(by rw[ER.o,if_pos];simp;omega);clear h1 h2 ER;have C:=zh (Df t h w2 H2.o HW.len);have RC:=zh nH;go_wp2_with(with_reducible refine zS 18 ?_);refine zh (zL Z2 rfl YP ?_);go_wp2_with fail;refine C.mono ?_;rintro e w3 ⟨b,rfl,hm,hb,b3⟩;have M3:=zh hm;have B3:=zD B2 b3;clear hm hb b3 C Z2 H2 B2;go_wp2_with fail;refine(RC.o _ _ w3).mono ?_;rintro e w4 ⟨rfl,rfl⟩;have b4:Below w3.heap.size w3 ((w3.alloc (.cells #[.map (some b)] 252)).alloc (.cells #[.int .i64 z] 3)):=((Yb _ w3).alloc (Ya _) _).alloc (by simp) _;have Y1:Hid (ag ((w3.alloc (.cells #[.map (some b)] 252)).alloc (.cells #[.int .i64 z] 3)) w3.heap.size 252 1 (fun _=>.map (some b))):=zh ((ag.new w3 252 1 (fun _=>.map (some b))).below ((Yb _ _).alloc (Ya _) _))
 have Y2:Hid (ag ((w3.alloc (.cells #[.map (some b)] 252)).alloc (.cells #[.int .i64 z] 3)) (w3.heap.size+1) 3 1 (bC z)):=zh (by
  have h:=ag.new (w3.alloc (.cells #[.map (some b)] 252)) 3 1 (bC z)
  rwa[Xi]at h)
 obtain⟨w4,af⟩:=zg ((w3.alloc (.cells #[.map (some b)] 252)).alloc (.cells #[.int .i64 z] 3));rw[af]at b4 Y1 Y2 ⊢;have M4:=zh (KM.At.below M3.o b4);have B4:=zD B3 b4;have LN:=zh (qI (ofL t) 9 z)
 have CL:=zh (yH (gf:=277) (enters_of Tryz.func277 (by kernel_rfl) rfl) w4 (JK b (ofL t) 9 z HZ.o (by have :=HZ.o;omega) 4 w3.heap.size (w3.heap.size+1) w4 Y1.o Y2.o M4.o) (fun k e=>by
  rcases e with rfl | rfl
  · exact M4.lt
  · exact Y1.lt) (Yc LN.o (by decide)))
 obtain⟨R,hR⟩:=zg (oV (ofL t) 9 z);rw[hR]at CL;have HR:=zh hR;clear af b4 hR LN;go_wp2_with fail;refine CL.mono ?_;rintro e w5 ⟨u,xs,rfl,rfl,ho,b5⟩;have O5:=zh (ho.mono B4.size);have B5:=zD B4 b5;clear ho b5 CL Y1 Y2 M4 M3 RC;go_wp2_with fail;go_ret2;rw[HR.o];exact⟨_,_,rfl,O5.o,B5.o⟩
theorem qf(f:Int)(w:World):Calls Tryz.prog 170 #[.int .i64 f] w fun e w'=>e=.returned (.bool (decide (0≤f)&&decide (f < 16)))∧w'=w:=by
 go_in;by_cases h:0≤f
 · have d0:decide (0≤f)=true:=zt h;clear h;go_wp2_with fail;go_ret;exact⟨by rw[d0,Bool.true_and];rfl,rfl⟩
 · have d0:decide (0≤f)=false:=zT h;clear h;go_wp2_with fail;go_ret;exact⟨by rw[d0,Bool.false_and];rfl,rfl⟩
theorem lM(f:Int)(w:World):Calls Tryz.prog 177 #[.int .i64 f] w fun e w'=>e=.returned (.bool (dS f))∧w'=w:=by
 have E:Hid (dS f=(decide (0≤f)&&decide (f < 512))):=zh rfl;obtain⟨R,hR⟩:=zg (dS f);rw[hR]at E ⊢;clear hR;go_in;by_cases h:0≤f
 · have d0:decide (0≤f)=true:=zt h;obtain rfl:R=decide (f < 512):=(by rw[E.o,d0,Bool.true_and]);clear h E;go_wp2_with fail;go_ret;exact⟨rfl,rfl⟩
 · have d0:decide (0≤f)=false:=zT h;obtain rfl:R=false:=(by rw[E.o,d0,Bool.false_and]);clear h E;go_wp2_with fail;go_ret;exact⟨rfl,rfl⟩
def bs(l:List Me)(d:Int)(lo hi:Nat):Nat:=
 if h:lo < hi then(if(l.getD ((lo+hi) / 2) me0).d < d then bs l d ((lo+hi) / 2+1) hi else bs l d lo ((lo+hi) / 2))else lo
termination_by hi - lo
decreasing_by all_goals omega
theorem bs_up{l:List Me}{d:Int}{lo hi:Nat}(h:lo < hi)(hc:(l.getD ((lo+hi) / 2) me0).d < d):bs l d lo hi=bs l d ((lo+hi) / 2+1) hi:=by rw[bs,dif_pos h,if_pos hc]
theorem Wv{l:List Me}{d:Int}{lo hi:Nat}(h:lo < hi)(hc:¬(l.getD ((lo+hi) / 2) me0).d < d):bs l d lo hi=bs l d lo ((lo+hi) / 2):=by rw[bs,dif_pos h,if_neg hc]
theorem bs_end{l:List Me}{d:Int}{lo:Nat}:bs l d lo lo=lo:=by rw[bs,dif_neg (Nat.lt_irrefl _)]
def kz(l:List Me)(d:Int):Nat:=bs l d 0 l.length
def iY(l:List Me)(d:Int):Bool:=decide (kz l d < l.length)&&decide ((l.getD (kz l d) me0).d=d)
theorem QR{l:List Me}{d:Int}(h:iY l d=true):kz l d < l.length∧(l.getD (kz l d) me0).d=d:=by
 unfold iY at h;simpa using h
theorem Fg(m:Me)(d:Int)(w:World):Calls Tryz.prog 215 #[.agg (ah 3 (meC m)),.int .i64 d] w (zr (.int .i64 (gu m.d d)) w):=by
 have C:=zh (fun W=>jB m.d d W);obtain⟨R,hR⟩:=zg (gu m.d d);rw[hR]at C ⊢;clear hR;go_in;have B0:=zh (Yb w.heap.size w);go_upto_region 1 with fail;obtain⟨w1,ae,b1,z1,Z1⟩:=zW w 53 3 (meC m);rw[ae];(try rw[z1]);have B1:=zD B0 b1;clear b1 ae z1 B0;have x0:w1.cell? ⟨w.heap.size,0,none⟩=some (.int .i64 m.d):=Z1.cell (i:=0) (by decide);go_wp2_with fail;refine(C.o w1).mono ?_;rintro e w2 ⟨rfl,rfl⟩;go_wp2_with fail;go_ret;exact⟨rfl,B1.o⟩
theorem wrap64_in{x:Int}(h: -9223372036854775808≤x∧x≤9223372036854775807):wrap64 x=x:=by unfold wrap64;omega
theorem Kt{a b:Int}:decide (gu a b < 0)=decide (a < b):=by
 unfold gu;by_cases h:a < b
 · rw[if_pos h];simp[h]
 · rw[if_neg h];by_cases h2:b < a
   · rw[if_pos h2];simp[h]
   · rw[if_neg h2];simp[h]
theorem Wj{a b:Int}:decide (gu a b=0)=decide (a=b):=by
 unfold gu;by_cases h:a < b
 · rw[if_pos h];have :a≠b:=(by omega);simp[this]
 · rw[if_neg h];by_cases h2:b < a
   · rw[if_pos h2];have :a≠b:=(by omega);simp[this]
   · rw[if_neg h2];have :a=b:=(by omega);simp[this]
theorem Fh(l:List Me)(h:Hd)(d:Int)(w:World)(hm:mD w h l)(hn:l.length≤1000000):
 Calls Tryz.prog 214 #[h.v,.int .i64 d,.func (.func 215) #[] #[]] w (zr (.tuple #[.int .i64 (kz l d:Int),.bool (iY l d)]) w):=by
 obtain⟨la,ln,lc⟩:=h
 have af:ln=l.length:=by
  obtain⟨a,k,e⟩:=ax.slice hm;cases e;rfl
 subst af;have H0:Hid (aN 3 w (.slice la l.length lc) l.length (fun i=>meC (l.getD i me0))):=zh (ax.at1 me0 (by decide) (by decide) hm hn);have MC:=zh Fg;have EM:Hid (iY l d=(decide (kz l d < l.length)&&decide ((l.getD (kz l d) me0).d=d))):=zh rfl;have EA:Hid (kz l d=bs l d 0 l.length):=zh rfl;obtain⟨K,hK⟩:=zg (iY l d);obtain⟨R,hR⟩:=zg (kz l d);obtain⟨n,af⟩:=zg l.length;have QN:=zh hn;rw[hK,hR,af]at EM;rw[hR,af]at EA;rw[hK,hR,af];rw[af]at H0 QN;clear hm hn hK hR af;show Calls _ _ #[.slice la n lc,.int .i64 d,.func (.func 215) #[] #[]] w _;go_in;have B0:Hid (Below w.heap.size w w):=zh (Yb _ w);go_wp2_with fail;go_loopg [9,10] n (fun g s9 aB wx=>∃lo hi:Nat,g=hi - lo∧s9=.int .i64 (lo:Int)∧aB=.int .i64 (hi:Int)∧Hid (lo≤hi∧hi≤n)∧Hid (bs l d lo hi=R)∧Hid (Below w.heap.size w wx));case atStart=>exact⟨0,n,by omega,rfl,rfl,zh ⟨Nat.zero_le _,Ya _⟩,zh EA.symm,B0⟩
 case round=>
  clear B0;obtain⟨lo,hi,hg,rfl,rfl,hb,hr,hB⟩:=hrel;obtain⟨w1,rfl⟩:=zG wr;have HG:=zh hg;have q0:=Ye lo;by_cases ak:lo < hi
  · obtain⟨d0,d1,-⟩:=zl ak;have au:=zh ak;clear ak hg;obtain⟨m,hm⟩:=zg ((lo+hi) / 2);obtain⟨s,hs⟩:=zg (lo+hi);have HM:=zh hm;have aC:=hb.o;have aF:=au.o;have hq:=QN.o;have ag:Hid (lo≤m∧m < hi∧m < n):=zh (by omega);have q1:=Ye m;have q2:(m:Int) < (n:Int):=(by omega);have az:(lo:Int)+(hi:Int)=(s:Int):=(by omega);have aH:(s:Int) / 2=(m:Int):=(by omega);have ay:wrap64 ((lo:Int)+(hi:Int))=(s:Int):=(by rw[←az];exact wrap64_in (by omega));have aA:IntKind.u64.wrap (s:Int)=(s:Int):=IntWalk.u64_in _ (by clear ay;omega);have aG:wrap64 (m:Int)=(m:Int):=(by clear ay aA;exact wrap64_in (by omega));have aJ:wrap64 ((m:Int)+1)=(m:Int)+1:=(by clear ay aA aG;exact wrap64_in (by omega));obtain⟨b,off,rfl,ah,aj,hc⟩:=aN.aI (s:=3) (n:=n) (a:=la) (k:=lc) (c:=fun i=>meC (l.getD i me0)) H0.o ag.2.2
    have ai:Hid (∀j,j < 3→w1.cell? ⟨b,off+3*m+j,none⟩=some (meC (l.getD m me0) j)):=zh (fun j hj=>(hB.cell (p:=⟨b,off+3*m+j,none⟩) aj).trans (hc m ag.2.2 j hj));obtain⟨x,hx⟩:=zg (l.getD m me0);have UP:Hid (x.d < d→bs l d (m+1) hi=R):=zh (fun h=>by rw[←hr.o,bs_up au.o (by rw[HM.o,hx];exact h),HM.o]);have DN:Hid (¬x.d < d→bs l d lo m=R):=zh (fun h=>by rw[←hr.o,Wv au.o (by rw[HM.o,hx];exact h),HM.o]);rw[hx]at ai;clear hm hs az aC aF hq ah aj hc hx;go_wp2_with(with_reducible refine zS 28 ?_);refine zh (zE b (off+m*3) rfl YZ off m (by rw[Ym]) (meC x) ai.o ?_);go_wp2_with fail;refine(MC.o x d w1).mono ?_;rintro e w2 ⟨rfl,b2⟩;have B2:=zD hB b2;clear b2 hB ai;by_cases hx:x.d < d
    · have d2:decide (gu x.d d < 0)=true:=(by rw[Kt];exact zt hx);have U:=zh (UP.o hx);clear hx UP DN;obtain⟨cz,ae⟩:=zg (gu x.d d);rw[ae]at d2 ⊢;clear ae;go_wp2_with fail;go_roundg(hi - (m+1));case measure=>have :=HG.o;have :=ag.o;omega
      case rel=>
       go_light;exact⟨m+1,hi,rfl,by go_num,rfl,zh ⟨by have :=ag.o;omega,hb.2⟩,U,B2⟩
    · have d2:decide (gu x.d d < 0)=false:=(by rw[Kt];exact zT hx);have U:=zh (DN.o (by omega));clear hx UP DN;obtain⟨cz,ae⟩:=zg (gu x.d d);rw[ae]at d2 ⊢;clear ae;go_wp2_with fail;go_roundg(m - lo);case measure=>have :=HG.o;have :=ag.o;omega
      case rel=>
       go_light;exact⟨lo,m,rfl,rfl,rfl,zh ⟨ag.1,by have :=ag.o;omega⟩,U,B2⟩
  · have d0:decide ((lo:Int) < (hi:Int))=false:=zT (by omega);obtain rfl:lo=hi:=(by have :=hb.o;omega);obtain rfl:lo=R:=(by have :=hr.o;rwa[bs_end]at this);clear ak hg hr;by_cases hl:lo < n
    · have d1:decide ((lo:Int) < (n:Int))=true:=zt (by omega);have q2:(lo:Int) < (n:Int):=(by omega);obtain⟨b,off,rfl,ah,aj,hc⟩:=aN.aI (s:=3) (n:=n) (a:=la) (k:=lc) (c:=fun i=>meC (l.getD i me0)) H0.o hl;have ai:Hid (∀j,j < 3→w1.cell? ⟨b,off+3*lo+j,none⟩=some (meC (l.getD lo me0) j)):=zh (fun j hj=>(hB.cell (p:=⟨b,off+3*lo+j,none⟩) aj).trans (hc lo hl j hj));have EK:Hid (K=decide ((l.getD lo me0).d=d)):=zh (by rw[EM.o,zt hl,Bool.true_and]);obtain⟨x,hx⟩:=zg (l.getD lo me0);rw[hx]at ai EK;have d2:Hid (decide (gu x.d d=0)=K):=zh (by rw[Wj,EK.o]);obtain⟨cz,ae⟩:=zg (gu x.d d);rw[ae]at d2;have MX:=zh (MC.o x d w1);rw[ae]at MX;clear hl ah aj hc hx ae EM EK;go_wp2_with(with_reducible refine zS 44 ?_);refine zh (aX rfl ?_);refine zE b (off+lo*3) rfl YZ off lo (by rw[Ym]) (meC x) ai.o ?_;go_wp2_with fail;refine MX.mono ?_;rintro e w2 ⟨rfl,b2⟩;have B2:=zD hB b2;have d3:(cz==0)=K:=d2.o
      clear b2 hB ai d2;go_wp2_with fail;go_ret2;exact⟨by rw[←d3];rfl,B2.o⟩
    · have d1:decide ((lo:Int) < (n:Int))=false:=zT (by omega);have d1':decide (lo < n)=false:=zT hl;obtain rfl:K=false:=(by rw[EM.o,zT hl,Bool.false_and]);clear hl EM;go_wp2_with fail;go_ret2;exact⟨rfl,hB.o⟩
theorem pK(g:Gp)(v:GpV)(d:Int)(w:World)(hm:mD w v.m g.mem)(hn:g.mem.length≤1000000):
 Calls Tryz.prog 186 #[.agg (ah 36 (gpC g v)),.int .i64 d] w (zr (.tuple #[.int .i64 (kz g.mem d:Int),.bool (iY g.mem d)]) w):=by
 have C:=zh (fun W (b:Below w.heap.size w W)=>Fh g.mem v.m d W (mD.below hm b) hn);obtain⟨A,hA⟩:=zg (kz g.mem d);obtain⟨K,hK⟩:=zg (iY g.mem d);rw[hA,hK]at C ⊢;clear hA hK hm hn;go_in;have B0:=zh (Yb w.heap.size w);go_upto_region 1 with fail;obtain⟨w1,ae,b1,z1,Z1⟩:=zW w 51 36 (gpC g v);rw[ae];(try rw[z1]);have B1:=zD B0 b1;clear b1 ae z1 B0;have x0:w1.cell? ⟨w.heap.size,34,none⟩=some v.m.v:=Z1.cell (i:=34) (by decide);go_wp2_with fail;refine(C.o _ B1.o).mono ?_;rintro e w2 ⟨rfl,b2⟩;have B2:=zD B1 b2;clear b2 B1 Z1;clear x0;go_wp2_with fail;go_ret2;exact⟨rfl,B2.o⟩
def Az(g:Gp)(m:Me):Bool:=decide (m.s < 1)||(decide (g.e < m.s)|| !aU m.v)
theorem Jk(g:Gp)(v:GpV)(m:Me)(B:Nat)(w:World)(hB:ag w B 51 36 (gpC g v)):Calls Tryz.prog 172 #[.agg (ah 3 (meC m)),.pointer (some ⟨B,0,none⟩)] w (zr (.bool (Az g m)) w):=by
 have G0:=zh hB;have CK:Hid (∀W,Calls Tryz.prog 150 #[.int .i64 m.v] W (zr (.int .i64 (chk m.v)) W)):=zh (check_any m.v);have EC:Hid (chk m.v=if aU m.v then 0 else 40):=zh rfl;have ER:Hid (Az g m=(decide (m.s < 1)||(decide (g.e < m.s)|| !aU m.v))):=zh rfl;obtain⟨R,hR⟩:=zg (Az g m);obtain⟨cx,ae⟩:=zg (chk m.v);obtain⟨ex,hex⟩:=zg (aU m.v);rw[hR,hex]at ER;rw[ae]at CK;rw[ae,hex]at EC;rw[hR];clear hR ae hex hB;go_in;have B0:=zh (Yb w.heap.size w);go_upto_region 1 with fail;obtain⟨w1,af,b1,z1,Z1⟩:=zW w 53 3 (meC m);rw[af];(try rw[z1]);have B1:=zD B0 b1;have G1:=zh (G0.below b1);clear b1 af z1 B0 G0;have x1:w1.cell? ⟨w.heap.size,1,none⟩=some (.int .i64 m.s):=Z1.cell (i:=1) (by decide);have x2:w1.cell? ⟨w.heap.size,2,none⟩=some (.int .i64 m.v):=Z1.cell (i:=2) (by decide);have x3:w1.cell? ⟨B,1,none⟩=some (.int .i64 g.e):=G1.cell (i:=1) (by decide);obtain⟨ms,ai⟩:=zg m.s;obtain⟨ge,aj⟩:=zg g.e
 rw[ai]at x1 ER;rw[aj]at x3 ER;clear ai aj;cases d0:decide (ms < 1);rotate_left
 · obtain rfl:R=true:=(by rw[ER.o,d0];rfl);clear ER EC;go_wp2_with fail;go_ret;exact⟨rfl,B1.o⟩
 cases d1:decide (ge < ms);rotate_left
 · obtain rfl:R=true:=(by rw[ER.o,d0,d1];rfl);clear ER EC;go_wp2_with fail;go_ret;exact⟨rfl,B1.o⟩
 obtain rfl:R= !ex:=(by rw[ER.o,d0,d1];rfl);clear ER;go_wp2_with fail;refine(CK.o w1).mono ?_;rintro e w2 ⟨rfl,b2⟩;have B2:=zD B1 b2;clear b2 B1 G1 Z1
 cases ex with
 | true=>
   obtain rfl:cx=0:=EC.o;clear EC d0 d1 x1 x2 x3;go_wp2_with fail;go_ret;exact⟨rfl,B2.o⟩
 | false=>
   obtain rfl:cx=40:=EC.o;clear EC d0 d1 x1 x2 x3;go_wp2_with fail;go_ret;exact⟨rfl,B2.o⟩
theorem Gy(m:Me)(d:Int)(w:World):Calls Tryz.prog 173 #[.agg (ah 3 (meC m)),.int .i64 d] w (zr (.bool (decide (m.d=d))) w):=by
 obtain⟨R,hR⟩:=zg (decide (m.d=d));have ER:Hid ((m.d==d)=R):=zh hR;rw[hR];clear hR;go_in;have B0:=zh (Yb w.heap.size w);go_upto_region 1 with fail;obtain⟨w1,ae,b1,z1,Z1⟩:=zW w 53 3 (meC m);rw[ae];(try rw[z1]);have B1:=zD B0 b1;clear b1 ae z1 B0;have x0:w1.cell? ⟨w.heap.size,0,none⟩=some (.int .i64 m.d):=Z1.cell (i:=0) (by decide);obtain⟨md,af⟩:=zg m.d;rw[af]at x0 ER;clear af;go_wp2_with fail;go_ret;exact⟨by rw[←ER.o];rfl,B1.o⟩
def ValO(w w':World)(n:Nat)(e:Ending):Prop:=∃b,e=.returned (.bool b)∧(b=true→n≤1023)∧Below w.heap.size w w'
theorem jX(g:Gp)(v:GpV):∀j,j < 32→gpC g v (2+j)=dgC g.last j:=by
 intro j hj;unfold gpC;rw[if_neg (by omega),if_neg (by omega),if_pos (by omega),show 2+j - 2=j by omega]
theorem uU(g:Gp)(v:GpV):∀j,j < 1→gpC g v (35+j)=(fun _=>v.t.v) j:=by
 intro j hj;obtain rfl:j=0:=(by omega);rfl
theorem vX(g:Gp)(v:GpV)(w:World)(hg:dV w g v)(hw:TrW g.tr)(hl:g.last.length=32)(hn:g.mem.length≤1000000):
 Calls Tryz.prog 113 #[.agg (ah 36 (gpC g v))] w fun e w'=>ValO w w' g.mem.length e:=by
 have aJ:=zM Tryz.prog;have HW:=zh hw;have E0:=zh hg.1;have T0:=zh hg.2;have HL:=zh hl;have HN:=zh hn;have IF:Hid (∀W,Calls Tryz.prog 170 #[.int .i64 g.f] W (zr (.bool (decide (0≤g.f)&&decide (g.f < 16))) W)):=zh (fun W=>(qf g.f W).mono fun e w' ⟨h,hw⟩=>⟨h,by rw[hw];exact Yb _ _⟩);obtain⟨fo,ay⟩:=zg ((decide (0≤g.f)&&decide (g.f < 16)));obtain⟨n,af⟩:=zg g.mem.length;have LN:=zh af;obtain⟨la,ln,lc,ag⟩:∃a k c,v.m.v=.slice a k c:=⟨_,_,_,rfl⟩
 obtain rfl:ln=n:=by
  obtain⟨a,k,e⟩:=ax.slice hg.1;rw[ag]at e;cases e;exact af
 have ai:=zh ag;rw[ay]at IF;rw[af]at HN;rw[af];clear hg hw hl hn ay af ag;go_in;have B0:=zh (Yb w.heap.size w);go_upto_region 1 with fail;obtain⟨w1,aB,b1,z1,Z1⟩:=zW w 51 36 (gpC g v);rw[aB];(try rw[z1]);have B1:=zD B0 b1;have E1:=zh (E0.below b1);have T1:=zh (T0.below b1);clear b1 aB z1 B0 E0 T0;have x0:w1.cell? ⟨w.heap.size,0,none⟩=some (.int .i64 g.f):=Z1.cell (i:=0) (by decide);go_wp2_with fail;refine(IF.o _).mono ?_;rintro e w2 ⟨rfl,b2⟩;have B2:=zD B1 b2;have E2:=zh (E1.below b2);have T2:=zh (T1.below b2);have Z2:=zh (Z1.below b2);clear b2 B1 E1 T1 Z1;clear x0 IF;have x1:w2.cell? ⟨w.heap.size,1,none⟩=some (.int .i64 g.e):=Z2.cell (i:=1) (by decide);obtain⟨ge,ak⟩:=zg g.e;rw[ak]at x1;have GE:=zh ak;clear ak
 cases fo with
 | false=>
   go_wp2_with fail;go_ret;exact⟨false,rfl,fun h=>(by cases h),B2.o⟩
 | true=>
 cases d0:decide (ge < 0);rotate_left
 · go_wp2_with fail;go_ret;exact⟨false,rfl,fun h=>(by cases h),B2.o⟩
 cases d1:decide (1099511627776 < ge);rotate_left
 · go_wp2_with fail;go_ret;exact⟨false,rfl,fun h=>(by cases h),B2.o⟩
 go_wp2_with(with_reducible refine zS 21 ?_);refine zh (aX rfl ?_);refine zP Z2 35 rfl YP (fun _=>v.t.v) (by decide) (uU g v) ?_;have C:=zh (oW g.tr v.t w2 T2.o HW.o);go_wp2_with fail;refine(C.o).mono ?_;rintro e w3 ⟨rfl,b3⟩;have B3:=zD B2 b3;have E3:=zh (E2.below b3);have T3:=zh (T2.below b3);have Z3:=zh (Z2.below b3);clear b3 B2 E2 T2 Z2;clear C d0 d1 x1;cases hk:okT g.tr
 · rw[if_neg Bool.false_ne_true];clear hk;go_wp2_with fail;go_ret;exact⟨false,rfl,fun h=>(by cases h),B3.o⟩
 rw[if_pos rfl];clear hk;have x1:w3.cell? ⟨w.heap.size,1,none⟩=some (.int .i64 ge):=(by rw[←GE.o];exact Z3.cell (i:=1) (by decide));have aH:w3.cell? ⟨w.heap.size,34,none⟩=some (.slice la ln lc):=(by rw[←ai.o];exact Z3.cell (i:=34) (by decide));go_upto_region 3 with fail;have hz:(dA:Dg).length=32:=(by decide);have au:=zh (fun W=>Bq (a:=g.last) (b:=dA) HL.o hz W);have aC:=zh (fun W=>jK .neq (.tmp 35) (.tmp 36) g.last dA W);obtain⟨q,hq⟩:=zg (decide (g.last=dA));rw[hq]at au;clear hz hq;go_cut [39]from 25 to 39 (fun aI wx=>(∃r:Bool,aI=.bool r)∧w3=wx)
 case first =>
  by_cases he:ge=0;rotate_left
  · have d0:(ge==0)=false:=(by simpa using he);clear he;go_wp2_with fail;go_meet;exact⟨⟨_,rfl⟩,rfl⟩
  · subst he;by_cases hn:0 < ln
    · have d1:decide ((0:Int) < (ln:Int))=true:=zt (by omega);have d2:decide (0 < ln)=true:=zt hn;clear hn;go_wp2_with fail;go_meet;exact⟨⟨_,rfl⟩,rfl⟩
    · obtain rfl:ln=0:=(by omega);clear hn;go_wp2_with(with_reducible refine zS 35 ?_);refine zh (aX rfl ?_);refine zP Z3 2 rfl YQ (dgC g.last) (by decide) (jX g v) ?_;go_wp2_with(with_reducible refine zS 37 ?_);refine zh ?_;rw[show(Value.agg #[.int .u8 0,.int .u8 0,.int .u8 0,.int .u8 0,.int .u8 0,.int .u8 0,.int .u8 0,.int .u8 0,.int .u8 0,.int .u8 0,.int .u8 0,.int .u8 0,.int .u8 0,.int .u8 0,.int .u8 0,.int .u8 0,.int .u8 0,.int .u8 0,.int .u8 0,.int .u8 0,.int .u8 0,.int .u8 0,.int .u8 0,.int .u8 0,.int .u8 0,.int .u8 0,.int .u8 0,.int .u8 0,.int .u8 0,.int .u8 0,.int .u8 0,.int .u8 0])=dgA dA from by kernel_rfl];have e1:=au.o;have e2:=aC.o;go_wp2_with fail;go_meet;exact⟨⟨_,rfl⟩,rfl⟩
 case rest=>
  obtain⟨⟨r,rfl⟩,rfl⟩:=hcut
  cases r with
  | true=>
    go_wp2_with fail;go_ret;exact⟨false,rfl,fun h=>(by cases h),B3.o⟩
  | false=>
    clear x1 aH au aC;go_upto_region 7 with fail;have LX:Hid (w.heap.size < w3.heap.size):=zh Z3.lt;have aG:Hid (w3.cell? ⟨w.heap.size,34,none⟩=some (.slice la ln lc)):=zh (by rw[←ai.o];exact Z3.cell (i:=34) (by decide))
    have MS:Hid (∀W,Below w3.heap.size w3 W→aN 3 W (.slice la ln lc) ln (fun i=>meC (g.mem.getD i me0))):=zh (fun W b=>by
     have h:=ax.at1 me0 (by decide) (by decide) (ax.below E3.o b) (by rw[LN.o];exact HN.o)
     rwa[LN.o,ai.o]at h)
    have KM:Hid (∀W,Below w3.heap.size w3 W→Calls Tryz.prog 175 #[trA v.t] W fun e w'=>∃u,∃l':List Int,e=.returned u∧ax 3 1 bC w' W.heap.size u l'∧(∀x,x∈l'↔x∈gQ g.tr)∧l'.length≤1023∧Below W.heap.size W w'):=zh (fun W b=>qJ g.tr v.t W (T3.below b) HW.o);clear E3 T3;refine Tc.aA (keep w3.heap.size) 14 [] (.fl 0 (.fl 1 (.fl 2 (.fl 3 (.fl 5 (.one 4 (.one 6 (.fl 7 (.fl 8 (.fl 9 (.fl 10 (.one 11 (.fl 12 (.fl 13 (.done))))))))))))))) (by kernel_rfl) (by kernel_rfl) ?_;intro w5 b5 e5;have B5:Hid (Below w3.heap.size w3 w5):=zh b5;clear b5 e5;refine Tc.aj [0,1,2,3,5] [_,_,_,_,_] rfl ?_;dsimp only[zx,zy,zz];(try simp only[List.setIfInBounds_toArray,List.set_cons_succ,List.set_cons_zero])
    (repeat(first | go_big_quiet_skip | (go_big_quiet_want;go_big_quiet_op;first | go_big_quiet_on | (refine⟨_,fun _ _=>rfl,?_⟩;go_big_quiet_on)) | ((try refine aY rfl ?_);refine zC w.heap.size 34 rfl zC46 (.slice la ln lc) (fun W hW=>aQ (n:=w3.heap.size) ((B5.cell (p:=⟨w.heap.size,34,none⟩) LX.o).trans aG.o) LX.o hW) ?_;simp only[Act.put,zu]) | (refine zq w.heap.size 35 rfl 36 YP (gpC g v) (fun _=>v.t.v) (fun W hW=>bG (n:=w3.heap.size) (Z3.below B5.o) LX.o hW) (by decide) (uU g v) ?_;simp only[Act.put,zu])));refine wpQuiet_nil ?_;refine Tc.ae 4 rfl (fun K hK=>?_);go_wp2_with fail;refine(KM.o _ B5.o).mono ?_;rintro e w6 ⟨u,l',rfl,ho,hm,hl,bq⟩;have bb:=bq.mono B5.size;have B6:=zh (B5.trans bb);have O6:=zh ho;have L6:=zh hl;clear ho hm hl bq KM;go_wp2_with fail;refine hK _ _ (az bb) ?_;clear hK K bb B5;refine Tc.ae 6 rfl (fun K hK=>?_)
    have EQ:=zh (xC (enters_of Tryz.func173 (by kernel_rfl) rfl) (lb:= #[]) (fun i=>decide ((g.mem.getD i me0).d=l'.getD i 0)) ln l'.length _ (fun i=>bC (l'.getD i 0)) _ u w6 (MS.o w6 B6.o) (O6.at' (0:Int) (by decide) (by decide) (by have :=L6.o;omega)) HN.o (by have :=L6.o;omega) (fun i j=>rfl) (fun i=>⟨_,rfl⟩) (fun i W _ _ _=>Gy _ _ W));obtain⟨r,hr⟩:=zg (eqF (fun i=>decide ((g.mem.getD i me0).d=l'.getD i 0)) ln l'.length);have ER:Hid (r=true→ln≤1023):=zh (fun h=>by have :=(Em (hr.trans h)).1;have :=L6.o;omega);rw[hr]at EQ;clear hr O6;go_wp2_with fail;refine EQ.mono ?_;rintro e w7 ⟨rfl,bq⟩;have bb:=bq.mono B6.size;have B7:=zh (B6.trans bb);clear bq EQ;go_wp2_with fail;refine hK _ _ (az bb) ?_;clear hK K bb B6;cases r
    all_goals(
     refine Tc.aj [7,8,9,10] [_,_,_,_] rfl ?_;dsimp only[zx,zy,zz];(try simp only[List.setIfInBounds_toArray,List.set_cons_succ,List.set_cons_zero]);(repeat(first | go_big_quiet_skip | (go_big_quiet_want;go_big_quiet_op;first | go_big_quiet_on | (refine⟨_,fun _ _=>rfl,?_⟩;go_big_quiet_on)) | ((try refine aY rfl ?_);refine zC w.heap.size 34 rfl zC46 (.slice la ln lc) (fun W hW=>aQ (n:=w3.heap.size) ((B7.cell (p:=⟨w.heap.size,34,none⟩) LX.o).trans aG.o) LX.o hW) ?_;simp only[Act.put,zu])));refine wpQuiet_nil ?_;refine Tc.ae 11 rfl (fun K hK=>?_)
     first
     | (refine dD rfl ?_
        refine hK _ _ (az (Yb _ _)) ?_;have B8:=B7;clear hK K B7
        (try dsimp only[Act.put]))
     | (go_wp2_with fail
        refine hK _ _ (az (Yb _ _)) ?_;have B8:=B7
        clear hK K B7)
     | (go_wp2_with fail
        refine(xN (enters_of Tryz.func172 (by kernel_rfl) rfl) (lb:= #[.pointer (some ⟨w.heap.size,0,none⟩)]) (fun i=>Az g (g.mem.getD i me0)) ln _ _ w7 (MS.o w7 B7.o) HN.o (fun i W _ hW=>Jk g v _ _ W ((Z3.below B7.o).below hW))).mono ?_;rintro e w8 ⟨rfl,bq⟩;have bb:=bq.mono B7.size;have B8:=zh (B7.trans bb);go_wp2_with fail;refine hK _ _ (az bb) ?_
        clear hK K bb bq B7)
     refine Tc.aj [12,13] [_,_] rfl ?_;dsimp only[zx,zy,zz];(try simp only[List.setIfInBounds_toArray,List.set_cons_succ,List.set_cons_zero]);(repeat(go_big_quiet_step(exact fun _=>rfl)));refine wpQuiet_nil ?_;refine Tc.aF (l:=[_]) rfl (fun K hK=>?_);go_wp2_with fail;go_ret
     exact⟨_,rfl,fun h=>(by first | exact ER.o rfl | exact ER.o trivial | (cases h)),B3.trans (B8.mono B3.size)⟩)
theorem chg1_w{t:Tr}(hw:TrW t)(c:Chg):TrW (nI okT aU t c):=by
 unfold nI;split
 · exact remL_w hw c.d
 · exact setL_w hw c.d c.p
theorem Lm{t:Tr}(hw:TrW t):∀l:List Chg,TrW (rn okT aU t l):=by
 intro l
 induction l generalizing t with
 | nil=>exact hw
 | cons a l ih=>exact ih (chg1_w hw a)
theorem JH(t:Tr)(l:List Chg)(c:Chg):rn okT aU t (l++[c])=nI okT aU (rn okT aU t l) c:=by unfold rn;rw[List.foldl_append];rfl
def RenO(w w':World)(t:Tr)(e:Ending):Prop:=∃hd,e=.returned (trA hd)∧eY w' hd t∧Below w.heap.size w w'
theorem sZ(g:Gp)(v:GpV)(l:List Chg)(ca:Option Addr)(cc:Nat)(w:World)(hg:eY w v.t g.tr)(hw:TrW g.tr)(hs:aN 5 w (.slice ca l.length cc) l.length (fun i=>chC (l.getD i ch0)))(hn:l.length≤1000000):
 Calls Tryz.prog 124 #[.agg (ah 36 (gpC g v)),.slice ca l.length cc] w fun e w'=>RenO w w' (rn okT aU g.tr l) e:=by
 have HW:=zh hw;have T0:=zh hg;have S0:=zh hs;have QN:=zh hn;obtain⟨n,aj⟩:=zg l.length;have LN:=zh aj;rw[aj]at S0 QN ⊢;obtain⟨R,hR⟩:=zg (rn okT aU g.tr l);have HR:=zh hR;rw[hR];have SS:=S0;clear hg hw hs hn aj hR;go_in;have B0:=zh (Yb w.heap.size w);go_upto_region 1 with fail;obtain⟨w1,ay,b1,z1,Z1⟩:=zW w 51 36 (gpC g v);rw[ay];(try rw[z1]);have B1:=zD B0 b1;have T1:=zh (T0.below b1);clear b1 ay z1 B0 T0;have LY:=zh B1.size;obtain⟨w2,az,b2,z2,Y2⟩:=zQ w1 (.cells #[.slice none 0 0] 49) 49 1 (fun _=>hd0.v) rfl;rw[az];(try rw[z2]);have B2:=zD B1 b2;have T2:=zh (T1.below b2);have Z2:=zh (Z1.below b2);clear b2 az z2 B1 T1 Z1;have LX:=zh B2.size;have aA:=zh Y2.lt;go_wp2_with(with_reducible refine zS 9 ?_);refine zh (zP Z2 35 rfl YP (fun _=>v.t.v) (by decide) (uU g v) ?_);have Zr:=zh (ag.new w2 49 1 ((fun _=>hd0.v)))
 go_upto_region 2 with((with_reducible refine zN ?_);refine zV Zr rfl (fun _=>v.t.v) rfl YP (fun _ _=>rfl) ?_;intro w3 X3 o3);have b3:Below w2.heap.size w2 w3:=zO o3;have B3:=zD B2 b3;have T3:=zh (T2.below b3);have Y3:=zh (Y2.below b3);clear b3 o3 Zr B2 T2 Z2 Y2;have P3:Hid (eY w3 v.t (rn okT aU g.tr (l.take 0))):=T3;clear T3;go_wp2_with fail;go_loopg [12] n (fun gh aC wx=>∃(k:Nat) (h:Hd),k+gh=n∧aC=.int .i64 (k:Int)∧Hid (ag wx w2.heap.size 49 1 (fun _=>h.v))∧Hid (eY wx h (rn okT aU g.tr (l.take k)))∧Hid (ag wx w1.heap.size 49 1 (fun _=>hd0.v))∧Hid (Below w.heap.size w wx));case atStart=>exact⟨0,v.t,by omega,rfl,X3,P3,Y3,B3⟩
 case round=>
  clear X3 P3 Y3 B3;obtain⟨k,h,hk,rfl,hX,hT,hY,hB⟩:=hrel;obtain⟨w4,rfl⟩:=zG wr;have q0:=Ye k;by_cases ae:k < n
  · obtain⟨d0,d1,-⟩:=zl ae;obtain⟨b,off,rfl,ak,hb,hc⟩:=aN.aI (s:=5) (n:=n) (a:=ca) (k:=cc) (c:=fun i=>chC (l.getD i ch0)) (SS.below hB.o) ae;have ai:=zh ae;have au:=zh (fun j hj=>hc k ae j hj);have TK:Hid (rn okT aU g.tr (l.take (k+1))=nI okT aU (rn okT aU g.tr (l.take k)) (l.getD k ch0)):=zh (by rw[aH ch0 l (show k < l.length by rw[LN.o];exact ae),JH]);obtain⟨x,hx⟩:=zg (l.getD k ch0);rw[hx]at au TK;have TW:=zh (Lm HW.o (l.take k));obtain⟨t,ht⟩:=zg (rn okT aU g.tr (l.take k));rw[ht]at hT TK TW;have aF:=zw  ((k:Int)+1) (by have :=QN.o;omega);clear hc ak hb hx ae ht;go_upto_region 4 with fail;go_wp2_with(with_reducible refine zS 15 ?_);refine zh (zE b (off+k*5) rfl YV off k (by rw[Ym]) (chC x) au.o ?_);have B4:=hB;have X4:=hX;have T4:=hT;have Y4:=hY;clear hB hX hT hY au d0 d1;have Zr:=zh (ag.new w4 75 5 (chC ch0))
    go_upto_region 5 with((with_reducible refine zN ?_);refine zV Zr rfl (chC x) rfl YV (fun _ _=>rfl) ?_;intro w5 C5 o5);have b5:Below w4.heap.size w4 w5:=zO o5;have B5:=zD B4 b5;have X5:=zh (X4.below b5);have T5:=zh (T4.below b5);have Y5:=zh (Y4.below b5);clear b5 o5 Zr B4 X4 T4 Y4;have x0:w5.cell? ⟨w4.heap.size,0,none⟩=some (.int .i64 x.k):=C5.cell (i:=0) (by decide);have x1:w5.cell? ⟨w4.heap.size,1,none⟩=some (.int .i64 x.d):=C5.cell (i:=1) (by decide);have x2:w5.cell? ⟨w4.heap.size,2,none⟩=some (.int .i64 x.p):=C5.cell (i:=2) (by decide);by_cases h2:x.k=2
    · have d2:(x.k==2)=true:=(by simpa using h2);have E1:Hid (nI okT aU t x=xJ okT t x.d):=zh (by unfold nI;rw[if_pos h2]);have KR:=zh (sG t h x.d w5 T5.o TW.o);obtain⟨xk,af⟩:=zg x.k;rw[af]at d2 x0;clear h2 af x2;go_wp2_with(with_reducible refine zS 20 ?_);refine zh (zL X5 rfl YP ?_);go_wp2_with fail;refine KR.mono ?_;rintro e w6 ⟨hd,y,rfl,ht,b6⟩;have H6:=zh ht;have X6:=zh (X5.below b6);have Y6:=zh (Y5.below b6);have B6:=zD B5 b6;clear ht b6 KR x0 x1 C5 X5 Y5 B5 T5 d2;rw[show trA hd=.agg (ah 1 (fun _=>hd.v))from rfl];go_wp2_with(with_reducible refine zn ?_);refine zh (zV X6 rfl _ rfl YP (fun j _=>rfl) ?_);intro w7 X7 O7;have H7:Hid (eY w7 hd (rn okT aU g.tr (l.take (k+1)))):=zh (by rw[TK.o,E1.o];exact ax.aB H6.o X6.o (by decide) O7.o);have Y7:=zh (O7.row (Nat.ne_of_lt aA.o) Y6.o);have B7:=zh (B6.trans (O7.below LX.o B6.size));clear O7 X6 Y6 B6 H6;go_wp2_with fail;go_roundg(n - (k+1))
      case measure=>have :=ai.o;omega
      case rel=>
       go_light;exact⟨k+1,hd,by have :=ai.o;omega,by go_num,X7,H7,Y7,B7⟩
    · have d2:(x.k==2)=false:=(by simpa using h2);have E1:Hid (nI okT aU t x=xq okT aU t x.d x.p):=zh (by unfold nI;rw[if_neg h2]);have KR:=zh (DJ t h x.d x.p w5 T5.o TW.o);obtain⟨xk,af⟩:=zg x.k;rw[af]at d2 x0;clear h2 af;go_wp2_with(with_reducible refine zS 27 ?_);refine zh (zL X5 rfl YP ?_);go_wp2_with fail;refine KR.mono ?_;rintro e w6 ⟨hd,y,rfl,ht,b6⟩;have H6:=zh ht;have X6:=zh (X5.below b6);have Y6:=zh (Y5.below b6);have B6:=zD B5 b6;clear ht b6 KR x0 x1 x2 C5 X5 Y5 B5 T5 d2;rw[show trA hd=.agg (ah 1 (fun _=>hd.v))from rfl];go_wp2_with(with_reducible refine zn ?_);refine zh (zV X6 rfl _ rfl YP (fun j _=>rfl) ?_);intro w7 X7 O7;have H7:Hid (eY w7 hd (rn okT aU g.tr (l.take (k+1)))):=zh (by rw[TK.o,E1.o];exact ax.aB H6.o X6.o (by decide) O7.o);have Y7:=zh (O7.row (Nat.ne_of_lt aA.o) Y6.o);have B7:=zh (B6.trans (O7.below LX.o B6.size));clear O7 X6 Y6 B6 H6;go_wp2_with fail
      go_roundg(n - (k+1));case measure=>have :=ai.o;omega
      case rel=>
       go_light;exact⟨k+1,hd,by have :=ai.o;omega,by go_num,X7,H7,Y7,B7⟩
  · obtain⟨d0,d1⟩:=zk ae;have H4:Hid (eY w4 h R):=zh (by rw[←HR.o];have h:=hT.o;rwa[Yq (by rw[LN.o];omega)]at h);have X4:=hX;have Y4:=hY;have B4:=hB;clear hX hY hT hB ae hk q0;go_wp2_with(with_reducible refine zS 36 ?_);refine zh (zL X4 rfl YP ?_);go_wp2_with(with_reducible refine zn ?_);refine zh (zV Y4 rfl _ rfl YP (fun j _=>rfl) ?_);intro w5 Y5 O5;have H5:=zh (ax.aB H4.o Y4.o (by decide) O5.o);have B5:=zh (B4.trans (O5.below LY.o B4.size));clear O5 X4 Y4 B4 H4;go_wp2_with fail;refine bodyPost_ret (v:=.agg (ah 1 (fun _=>h.v))) (by exact zB Y5 rfl rfl YP) rfl ?_;exact⟨h,rfl,H5.o,B5.o⟩
def vkey(m:List Me)(l:List Chg)(d:Int):Int:=if iY m d then(m.getD (kz m d) me0).v else(l.getD 0 ch0).v
theorem Fp(g:Gp)(v:GpV)(d:Int)(l:List Chg)(ca:Option Addr)(cc:Nat)(w:World)(hm:mD w v.m g.mem)(ag:g.mem.length≤1000000)(hs:aN 5 w (.slice ca l.length cc) l.length (fun i=>chC (l.getD i ch0)))(h0:iY g.mem d=false→0 < l.length):
 Calls Tryz.prog 121 #[.agg (ah 36 (gpC g v)),.int .i64 d,.slice ca l.length cc] w (zr (.int .i64 (vkey g.mem l d)) w):=by
 have E0:=zh hm;have S0:=zh hs;have QM:=zh ag;have LP:=zh h0;have MI:=zh (@QR g.mem d);have MC:=zh (fun W (b:Below w.heap.size w W)=>pK g v d W (mD.below hm b) ag);obtain⟨n,ai⟩:=zg l.length;obtain⟨q,hq⟩:=zg g.mem.length;have HQ:=zh hq;obtain⟨R,hR⟩:=zg (vkey g.mem l d);have HR:Hid (R=if iY g.mem d then(g.mem.getD (kz g.mem d) me0).v else(l.getD 0 ch0).v):=zh hR.symm;obtain⟨A,hA⟩:=zg (kz g.mem d);obtain⟨K,hK⟩:=zg (iY g.mem d);rw[ai]at S0 LP;rw[hK]at LP MI MC HR;rw[hA]at MI MC HR;rw[hq]at MI QM;rw[hR,ai];obtain⟨la,ln,lc,aj⟩:∃a k c,v.m.v=.slice a k c:=⟨_,_,_,rfl⟩
 obtain rfl:ln=q:=by
  obtain⟨a,k,e⟩:=ax.slice hm;rw[aj]at e;cases e;exact hq
 have au:=zh aj;clear hm hs ag h0 ai hq hR hA hK aj;go_in;have B0:=zh (Yb w.heap.size w);go_upto_region 1 with fail;obtain⟨w1,ay,b1,z1,Z1⟩:=zW w 51 36 (gpC g v);rw[ay];(try rw[z1]);have B1:=zD B0 b1;have E1:=zh (E0.below b1);have S1:=zh (S0.below b1);clear b1 ay z1 B0 E0 S0;have C:=zh (MC.o w1 B1.o);go_wp2_with(with_reducible refine zS 10 ?_);refine zh (zL Z1 rfl YO ?_);go_wp2_with fail;refine(C.o).mono ?_;rintro e w2 ⟨rfl,b2⟩;have B2:=zD B1 b2;have E2:=zh (E1.below b2);have S2:=zh (S1.below b2);have Z2:=zh (Z1.below b2);clear b2 B1 E1 S1 Z1;clear C MC
 cases K with
 | true=>
   obtain⟨af,_⟩:=MI.o rfl;have az:w2.cell? ⟨w.heap.size,34,none⟩=some (.slice la ln lc):=by rw[←au.o];exact Z2.cell (i:=34) (by decide)
   have MS:Hid (aN 3 w2 (.slice la ln lc) ln (fun i=>meC (g.mem.getD i me0))):=zh (by
    have h:=ax.at1 me0 (by decide) (by decide) E2.o (by rw[HQ.o];exact QM.o)
    rwa[HQ.o,au.o]at h)
   obtain⟨b,off,rfl,ae,ak,hc⟩:=aN.aI (s:=3) (n:=ln) (a:=la) (k:=lc) (c:=fun i=>meC (g.mem.getD i me0)) MS.o af
   have lk:w2.cell? ⟨b,off+A*3+2,none⟩=some (.int .i64 (g.mem.getD A me0).v):=by
    have h:=hc A af 2 (by decide);rwa[Ym 3 A]at h
   have q0:=Ye A;have q1:(A:Int) < (ln:Int):=(by omega);have hR:R=(g.mem.getD A me0).v:=HR.o;rw[←hR]at lk;clear ae ak hc af hR HR LP MI E2 S2;go_wp2_with fail;go_ret;exact⟨rfl,B2.o⟩
 | false=>
   have af:=LP.o rfl;obtain⟨b,off,rfl,ae,ak,hc⟩:=aN.aI (s:=5) (n:=n) (a:=ca) (k:=cc) (c:=fun i=>chC (l.getD i ch0)) S2.o af;have lk:w2.cell? ⟨b,off+3,none⟩=some (.int .i64 (l.getD 0 ch0).v):=hc 0 af 3 (by decide);have q1:(0:Int) < (n:Int):=(by omega);have hR:R=(l.getD 0 ch0).v:=HR.o;rw[←hR]at lk;clear ae ak hc hR HR LP MI E2 S2;go_wp2_with fail;go_ret;exact⟨rfl,B2.o⟩
def AA(g:Gp)(own:Bool)(au:Int)(x:Chg):Bool:=(iY g.mem x.d==(x.k==1))||(own&&(x.d==au))
theorem xx(g:Gp)(v:GpV)(own:Bool)(au:Int)(x:Chg)(G O A:Nat)(w:World)(hm:mD w v.m g.mem)(ae:g.mem.length≤1000000)(hG:ag w G 51 36 (gpC g v))(hO:ag w O 4 1 (fun _=>.bool own))(hA:ag w A 3 1 (bC au)):
 Calls Tryz.prog 209 #[.agg (ah 5 (chC x)),.pointer (some ⟨G,0,none⟩),.pointer (some ⟨O,0,none⟩),.pointer (some ⟨A,0,none⟩)] w (zr (.bool (AA g own au x)) w):=by
 have MC:=zh (fun W (b:Below w.heap.size w W)=>pK g v x.d W (mD.below hm b) ae);have G0:=zh hG;have O0:=zh hO;have A0:=zh hA;have ER:Hid (AA g own au x=((iY g.mem x.d==(x.k==1))||(own&&(x.d==au)))):=zh rfl;obtain⟨R,hR⟩:=zg (AA g own au x);obtain⟨K,hK⟩:=zg (iY g.mem x.d);rw[hR,hK]at ER;rw[hK]at MC;rw[hR];clear hR hK hm ae hG hO hA;go_in;have B0:=zh (Yb w.heap.size w);go_upto_region 1 with fail;obtain⟨w1,af,b1,z1,C1⟩:=zW w 75 5 (chC x);rw[af];(try rw[z1]);have B1:=zD B0 b1;have G1:=zh (G0.below b1);have O1:=zh (O0.below b1);have A1:=zh (A0.below b1);clear b1 af z1 B0 G0 O0 A0;have c1:w1.cell? ⟨w.heap.size,1,none⟩=some (.int .i64 x.d):=C1.cell (i:=1) (by decide);have M:=zh (MC.o w1 B1.o);go_wp2_with(with_reducible refine zS 9 ?_);refine zh (zL G1 rfl YO ?_);go_wp2_with fail;refine(M.o).mono ?_;rintro e w2 ⟨rfl,b2⟩;have B2:=zD B1 b2;have O2:=zh (O1.below b2);have A2:=zh (A1.below b2)
 have C2:=zh (C1.below b2);clear b2 B1 G1 O1 A1 C1;clear M MC c1;have c0:w2.cell? ⟨w.heap.size,0,none⟩=some (.int .i64 x.k):=C2.cell (i:=0) (by decide);have c1:w2.cell? ⟨w.heap.size,1,none⟩=some (.int .i64 x.d):=C2.cell (i:=1) (by decide);have o0:w2.cell? ⟨O,0,none⟩=some (.bool own):=O2.cell (i:=0) (by decide);have a0:w2.cell? ⟨A,0,none⟩=some (.int .i64 au):=A2.cell (i:=0) (by decide);obtain⟨k1,ai⟩:=zg ((x.k==1));obtain⟨a1,aj⟩:=zg ((x.d==au));rw[ai,aj]at ER;cases K<;>cases k1<;>cases own
 all_goals(
  first
  | (obtain rfl:R=true:=ER.o
     clear ER;go_wp2_with fail;go_ret
     exact⟨rfl,B2.o⟩)
  | (obtain rfl:R=false:=ER.o
     clear ER;go_wp2_with fail;go_ret
     exact⟨rfl,B2.o⟩)
  | (obtain rfl:R=a1:=ER.o
     clear ER;go_wp2_with fail;go_ret
     exact⟨rfl,B2.o⟩))
def PosO(w w':World)(g:Gp)(au:Int)(n:Nat)(e:Ending):Prop:=∃b,e=.returned (.bool b)∧(b=true→iY g.mem au=decide (0 < g.e)∧(g.e=0→0 < n))∧Below w.heap.size w w'
theorem BK(g:Gp)(v:GpV)(au:Int)(l:List Chg)(ca:Option Addr)(cc:Nat)(w:World)(hm:mD w v.m g.mem)(ag:g.mem.length≤1000000)(hs:aN 5 w (.slice ca l.length cc) l.length (fun i=>chC (l.getD i ch0)))(hn:l.length≤1000000):
 Calls Tryz.prog 179 #[.agg (ah 36 (gpC g v)),.int .i64 au,.slice ca l.length cc] w fun e w'=>PosO w w' g au l.length e:=by
 have aH:=zM Tryz.prog;have E0:=zh hm;have S0:=zh hs;have QM:=zh ag;have QN:=zh hn;have MC:=zh (fun W (b:Below w.heap.size w W)=>pK g v au W (mD.below hm b) ag);obtain⟨n,ai⟩:=zg l.length;obtain⟨K,hK⟩:=zg (iY g.mem au);have HK:=zh hK;rw[ai]at S0 QN;rw[hK]at MC;rw[ai];clear hm hs ag hn ai hK;go_in;have B0:=zh (Yb w.heap.size w);go_upto_region 1 with fail;obtain⟨w1,ay,b1,z1,G1⟩:=zW w 51 36 (gpC g v);rw[ay];(try rw[z1]);have B1:=zD B0 b1;have E1:=zh (E0.below b1);have S1:=zh (S0.below b1);clear b1 ay z1 B0 E0 S0;obtain⟨w2,az,b2,z2,A2⟩:=zQ w1 (.cells #[.int .i64 au] 3) 3 1 (bC au) rfl;rw[az];(try rw[z2]);have B2:=zD B1 b2;have E2:=zh (E1.below b2);have S2:=zh (S1.below b2);have G2:=zh (G1.below b2);clear b2 az z2 B1 E1 S1 G1;have a0:w2.cell? ⟨w1.heap.size,0,none⟩=some (.int .i64 au):=A2.cell (i:=0) (by decide);have M:=zh (MC.o w2 B2.o);go_wp2_with(with_reducible refine zS 11 ?_)
 refine zh (zL G2 rfl YO ?_);go_wp2_with fail;refine(M.o).mono ?_;rintro e w3 ⟨rfl,b3⟩;have B3:=zD B2 b3;have E3:=zh (E2.below b3);have S3:=zh (S2.below b3);have G3:=zh (G2.below b3);have A3:=zh (A2.below b3);clear b3 B2 E2 S2 G2 A2;clear M MC a0;go_upto_region 2 with fail;obtain⟨w4,aA,b4,z4,O4⟩:=zQ w3 (.cells #[.bool K] 4) 4 1 (fun _=>.bool K) rfl;rw[aA];(try rw[z4]);have B4:=zD B3 b4;have E4:=zh (E3.below b4);have S4:=zh (S3.below b4);have G4:=zh (G3.below b4);have A4:=zh (A3.below b4);clear b4 aA z4 B3 E3 S3 G3 A3;have g1:w4.cell? ⟨w.heap.size,1,none⟩=some (.int .i64 g.e):=G4.cell (i:=1) (by decide);have a0:w4.cell? ⟨w1.heap.size,0,none⟩=some (.int .i64 au):=A4.cell (i:=0) (by decide);have o0:w4.cell? ⟨w3.heap.size,0,none⟩=some (.bool K):=O4.cell (i:=0) (by decide);obtain⟨ge,aj⟩:=zg g.e;have aB:=zh aj;rw[aj]at g1;have qg:=fun d os=>cell_regrown g1 d os
 have qa:=fun d os=>cell_regrown a0 d os;have qo:=fun d os=>cell_regrown o0 d os;clear g1 a0 o0 aj;go_cut [38]from 16 to 38 (fun aC wx=>(∃r,aC=.bool r∧Hid (r=false→K=decide (0 < ge)∧(ge=0→0 < n)))∧Hid (Below w4.heap.size w4 wx))
 case first =>
  by_cases he:ge=0
  · subst he
    cases K with
    | true=>
      refine wp_region_quiet_below (by kernel_rfl) (by kernel_rfl) ?_;(repeat(go_big_quiet_step (fail)));refine wpQuiet_nil ?_;intro w6 ae;have B6:=zh (aT ae);clear ae;go_wp2_with fail;go_meet;exact⟨⟨true,rfl,zh (fun h=>by cases h)⟩,B6⟩
    | false=>
      by_cases hn:n=0
      · subst hn;refine wp_region_quiet_below (by kernel_rfl) (by kernel_rfl) ?_;(repeat(go_big_quiet_step (fail)));refine wpQuiet_nil ?_;intro w6 ae;have B6:=zh (aT ae);clear ae;go_wp2_with fail;go_meet;exact⟨⟨true,rfl,zh (fun h=>by cases h)⟩,B6⟩
      · have af:0 < n:=Nat.pos_of_ne_zero hn;obtain⟨b,off,rfl,ak,aF,hc⟩:=aN.aI (s:=5) (n:=n) (a:=ca) (k:=cc) (c:=fun i=>chC (l.getD i ch0)) S4.o af;have lk:w4.cell? ⟨b,off+1,none⟩=some (.int .i64 (l.getD 0 ch0).d):=hc 0 af 1 (by decide);have ql:=fun d os=>cell_regrown lk d os;have q1:(0:Int) < (n:Int):=(by omega);have q2:((n:Int)==0)=false:=(by simpa using hn);have q3:decide ((n:Int)=0)=false:=zT (by omega);have aG:=zh af;clear ak aF hc lk hn af;refine wp_region_quiet_below (by kernel_rfl) (by kernel_rfl) ?_;(repeat(go_big_quiet_step (fail)));refine wpQuiet_nil ?_;intro w6 ae;have B6:=zh (aT ae);clear ae;go_wp2_with fail;go_meet;exact⟨⟨_,rfl,zh (fun _=>⟨rfl,fun _=>aG.o⟩)⟩,B6⟩
  · have e0:(ge==0)=false:=(by simpa using he);have HE:=zh he;cases hP:decide (0 < ge)<;>cases K
    all_goals(
     clear he;refine wp_region_quiet_below (by kernel_rfl) (by kernel_rfl) ?_;(repeat(go_big_quiet_step (fail)));refine wpQuiet_nil ?_;intro w6 ae;have B6:=zh (aT ae);clear ae;go_wp2_with fail;go_meet
     first
     | exact⟨⟨true,rfl,zh (fun h=>by cases h)⟩,B6⟩
     | exact⟨⟨false,rfl,zh (fun _=>⟨hP.symm,fun h=>absurd h HE.o⟩)⟩,B6⟩)
 case rest=>
  rename World=>w5
  obtain⟨⟨r,rfl,hr⟩,b5⟩:=hcut;have B5:=zD B4 b5.o
  cases r with
  | true=>
    clear qg qa qo hr;go_wp2_with fail;go_ret;exact⟨false,rfl,fun h=>(by cases h),B5.o⟩
  | false=>
    have G5:=zh (G4.below b5.o);have A5:=zh (A4.below b5.o);have O5:=zh (O4.below b5.o);have S5:=zh (S4.below b5.o);have E5:=zh (ax.below E4.o b5.o);have RR:Hid (iY g.mem au=decide (0 < g.e)∧(g.e=0→0 < n)):=zh (by rw[HK.o,aB.o];exact hr.o rfl);have HC:=zh (kK (enters_of Tryz.func209 (by kernel_rfl) rfl) (lb:= #[.pointer (some ⟨w.heap.size,0,none⟩),.pointer (some ⟨w3.heap.size,0,none⟩),.pointer (some ⟨w1.heap.size,0,none⟩)]) (fun i=>AA g K au (l.getD i ch0)) n _ _ w5 S5.o QN.o (fun i W _ hW=>xx g v K au _ _ _ _ W (ax.below E5.o hW) QM.o (G5.below hW) (O5.below hW) (A5.below hW)));clear qg qa qo hr b5 G4 A4 O4 S4 E4 B4;go_wp2_with fail;refine HC.mono ?_;rintro e w6 ⟨rfl,b6⟩;have B6:=zD B5 b6;clear b6 HC;go_wp2_with fail;go_ret;exact⟨_,rfl,fun _=>RR.o,B6.o⟩
def sO(au:Int)(x:Chg):Bool:=(x.k==2)||(x.d==au)
theorem Aw(au:Int)(x:Chg)(A:Nat)(w:World)(hA:ag w A 3 1 (bC au)):
 Calls Tryz.prog 183 #[.agg (ah 5 (chC x)),.pointer (some ⟨A,0,none⟩)] w (zr (.bool (sO au x)) w):=by
 have A0:=zh hA;have ER:Hid (sO au x=((x.k==2)||(x.d==au))):=zh rfl;obtain⟨R,hR⟩:=zg (sO au x);rw[hR]at ER ⊢;clear hR hA;go_in;have B0:=zh (Yb w.heap.size w);go_upto_region 1 with fail;obtain⟨w1,ae,b1,z1,C1⟩:=zW w 75 5 (chC x);rw[ae];(try rw[z1]);have B1:=zD B0 b1;have A1:=zh (A0.below b1);clear b1 ae z1 B0 A0;have c0:w1.cell? ⟨w.heap.size,0,none⟩=some (.int .i64 x.k):=C1.cell (i:=0) (by decide);have c1:w1.cell? ⟨w.heap.size,1,none⟩=some (.int .i64 x.d):=C1.cell (i:=1) (by decide);have a0:w1.cell? ⟨A,0,none⟩=some (.int .i64 au):=A1.cell (i:=0) (by decide);obtain⟨k1,af⟩:=zg ((x.k==2));obtain⟨a1,ai⟩:=zg ((x.d==au));rw[af,ai]at ER
 cases k1 with
 | true=>
   obtain rfl:R=true:=ER.o;clear ER;go_wp2_with fail;go_ret;exact⟨rfl,B1.o⟩
 | false=>
   obtain rfl:R=a1:=ER.o;clear ER;go_wp2_with fail;go_ret;exact⟨rfl,B1.o⟩
def WelO(w w':World)(au:Int)(l:List Chg)(e:Ending):Prop:=∃u,∃l':List Chg,e=.returned u∧ax 75 5 chC w' w.heap.size u l'∧l'.Perm (l.filter fun x=> !sO au x)∧Below w.heap.size w w'
theorem Ff(au:Int)(l:List Chg)(ca:Option Addr)(cc:Nat)(w:World)(hs:aN 5 w (.slice ca l.length cc) l.length (fun i=>chC (l.getD i ch0)))(hn:l.length≤1000000):
 Calls Tryz.prog 120 #[.int .i64 au,.slice ca l.length cc] w fun e w'=>WelO w w' au l e:=by
 have ah:=zM Tryz.prog;have S0:=zh hs;have HN:=zh hn;clear hs hn;go_in;have B0:=zh (Yb w.heap.size w);go_upto_region 1 with fail;obtain⟨w1,af,b1,z1,A1⟩:=zQ w (.cells #[.int .i64 au] 3) 3 1 (bC au) rfl;rw[af];(try rw[z1]);have B1:=zD B0 b1;have S1:=zh (S0.below b1);clear b1 af z1 B0 S0;have CL:=zh (uo ch0 (c:=chC) (fun u j=>rfl) l ca cc w1 S1.o HN.o);have LA:=zh A1.lt;go_wp2_with fail;refine CL.mono ?_;rintro e w2 ⟨u,rfl,ho,b2⟩;have O2:=zh ho;have A2:=zh (A1.below b2);have B2:=zD B1 b2;clear ho b2 CL A1 S1 B1;have DP:=zh (wU ch0 (c:=chC) (fun u j=>rfl) (enters_of Tryz.func183 (by kernel_rfl) rfl) (lb:= #[.pointer (some ⟨w.heap.size,0,none⟩)]) (fun W=>ag W w.heap.size 3 1 (bC au)) (sO au) l w1.heap.size u w2 O2.o HN.o A2.o (fun W W' h b=>h.below b) (fun b W W' hb h o=>o.row (by have :=(O2.lt b hb).1;have :=LA.o;omega) h) (fun x W _ h=>Aw au x _ W h));go_wp2_with fail;refine DP.mono ?_
 rintro e w3 ⟨v,rfl,ho,_,hb⟩;have O3:=zh ho;have b3:Below w.heap.size w2 w3:=hb _ B2.size (fun b h=>by have :=(O2.lt b h).1;have :=LA.o;omega);have B3:=zh (B2.trans b3);clear ho hb b3 DP A2 O2 B2;obtain⟨l1,ae⟩:=zg ((l.filter fun x=> !sO au x));have HL:=zh ae;rw[ae]at O3;have SO:=zh (Io O3.o (by rw[←ae];exact Yc (List.length_filter_le _ _) HN.o));clear ae;go_wp2_with fail;refine SO.mono ?_;rintro e w4 ⟨rfl,l',hp,ho,st⟩;have O4:=zh (ho.mono (Yv LA.o));have P4:Hid (l'.Perm (l.filter fun x=> !sO au x)):=zh (by rw[HL.o];exact hp);have B4:=zh (B3.trans (aO st B3.size (fun k hk=>by have :=(O3.lt k hk).1;have :=LA.o;omega)));clear ho hp st SO O3 B3;go_wp2_with fail;go_ret;exact⟨_,l',rfl,O4.mono (Ya _),P4.o,B4.o⟩
def YH(w w':World)(e:Ending):Prop:=∃b,e=.returned (.bool b)∧Below w.heap.size w w'
theorem sW(l:List Chg)(ca:Option Addr)(cc:Nat)(w:World)(hs:aN 5 w (.slice ca l.length cc) l.length (fun i=>chC (l.getD i ch0)))(hn:l.length≤1000000):
 Calls Tryz.prog 178 #[.slice ca l.length cc] w fun e w'=>YH w w' e:=by
 have aC:=fun W=>run_makeMap_plain (w:=W) (P:=Tryz.prog) 325;have S0:=zh hs;have QN:=zh hn;obtain⟨n,ay⟩:=zg l.length;rw[ay]at S0 QN ⊢;have SS:=S0;clear hs hn ay S0;go_in;have B0:=zh (Yb w.heap.size w);go_upto_region 2 with fail;obtain⟨w1,aj⟩:=zg (w.alloc (.map #[] 0));have b1:Below w.heap.size w w1:=(by rw[←aj];exact(Yb _ _).alloc (Ya _) _);have M1:Hid (BM w1 w.heap.size (mkU [])):=zh (by rw[←aj];exact BM.made w);have z1:w.heap.size+1=w1.heap.size:=(by rw[←aj];exact(Array.size_push _).symm);rw[aj];(try rw[z1]);have B1:=zD B0 b1;clear b1 aj z1 B0;clear aC;go_wp2_with fail;go_loopg [12] n (fun g aF wx=>∃(j:Nat) (U:Int→Bool),j+g=n∧aF=.int .i64 (j:Int)∧Hid (BM wx w.heap.size U)∧Hid (Below w.heap.size w wx));case atStart=>exact⟨0,mkU [],by omega,rfl,M1,B1⟩
 case round=>
  clear M1 B1;obtain⟨j,U,hj,rfl,hM,hB⟩:=hrel;obtain⟨w4,rfl⟩:=zG wr;have q0:=Ye j;by_cases ai:j < n
  · obtain⟨d0,d1,-⟩:=zl ai;obtain⟨b,off,rfl,au,hb,hc⟩:=aN.aI (s:=5) (n:=n) (a:=ca) (k:=cc) (c:=fun i=>chC (l.getD i ch0)) (SS.below hB.o) ai;have ah:=zh ai;have ax:=zh (fun i hi=>hc j ai i hi);obtain⟨x,hx⟩:=zg (l.getD j ch0);rw[hx]at ax;have aG:=zw  ((j:Int)+1) (by have :=QN.o;omega);clear hc au hb hx ai;go_upto_region 4 with fail;go_wp2_with(with_reducible refine zS 15 ?_);refine zh (zE b (off+j*5) rfl YV off j (by rw[Ym]) (chC x) ax.o ?_);have B4:=hB;have M4:=hM;clear hB hM ax d0 d1;have Zr:=zh (ag.new w4 75 5 (chC ch0));go_upto_region 5 with((with_reducible refine zN ?_);refine zV Zr rfl (chC x) rfl YV (fun _ _=>rfl) ?_;intro w5 C5 o5);have b5:Below w4.heap.size w4 w5:=zO o5;have B5:=zD B4 b5;have M5:=zh (M4.below b5);clear b5 o5 Zr B4 M4;have CP:Hid (∀W,Calls Tryz.prog 150 #[.int .i64 x.p] W (zr (.int .i64 (chk x.p)) W)):=zh (check_any x.p)
    have CV:Hid (∀W,Calls Tryz.prog 150 #[.int .i64 x.v] W (zr (.int .i64 (chk x.v)) W)):=zh (check_any x.v);obtain⟨cp,az⟩:=zg (chk x.p);obtain⟨cv,aA⟩:=zg (chk x.v);rw[az]at CP;rw[aA]at CV;clear az aA;dsimp only[Act.put];go_cut [6]from 16 to 25 (fun s6 wx=>(∃r:Bool,s6=.bool r)∧Hid (Below w5.heap.size w5 wx))
    case first =>
     have x2:w5.cell? ⟨w4.heap.size,2,none⟩=some (.int .i64 x.p):=C5.cell (i:=2) (by decide);go_wp2_with fail;refine(CP.o w5).mono ?_;rintro e w6 ⟨rfl,b6⟩;have B6:=zh b6;have x3:w6.cell? ⟨w4.heap.size,3,none⟩=some (.int .i64 x.v):=(C5.below b6).cell (i:=3) (by decide);clear x2 b6;by_cases h0:cp=0
     · subst h0;go_wp2_with fail;refine(CV.o w6).mono ?_;rintro e w7 ⟨rfl,b7⟩;have B7:=zD B6 b7;clear b7 x3;go_wp2_with fail;go_meet;exact⟨⟨_,rfl⟩,B7⟩
     · have e0:(cp==0)=false:=(by simpa using h0);clear h0 x3;go_wp2_with fail;go_meet;exact⟨⟨_,rfl⟩,B6⟩
    case rest=>
     rename World=>w6
     obtain⟨⟨r6,rfl⟩,b6⟩:=hcut;have C6:=zh (C5.below b6.o);have M6:=zh (M5.below b6.o);have B6:=zD B5 b6.o;clear C5 M5 B5 b6 CP CV;have x4:w6.cell? ⟨w4.heap.size,4,none⟩=some (.int .i64 x.c):=C6.cell (i:=4) (by decide);go_upto_region 6 with fail;(try dsimp only[Act.put]);go_cut [7]from 26 to 33 (fun s7 wx=>(∃r:Bool,s7=.bool r)∧w6=wx)
     case first =>
      by_cases h0:0≤x.c
      · have e0:decide (0≤x.c)=true:=zt h0;clear h0;go_wp2_with fail;go_meet;exact⟨⟨_,rfl⟩,rfl⟩
      · have e0:decide (0≤x.c)=false:=zT h0;clear h0;go_wp2_with fail;go_meet;exact⟨⟨_,rfl⟩,rfl⟩
     case rest=>
      obtain⟨⟨r7,rfl⟩,rfl⟩:=hcut;have x0:w6.cell? ⟨w4.heap.size,0,none⟩=some (.int .i64 x.k):=C6.cell (i:=0) (by decide);have x1:w6.cell? ⟨w4.heap.size,1,none⟩=some (.int .i64 x.d):=C6.cell (i:=1) (by decide);have x2:w6.cell? ⟨w4.heap.size,2,none⟩=some (.int .i64 x.p):=C6.cell (i:=2) (by decide);have x3:w6.cell? ⟨w4.heap.size,3,none⟩=some (.int .i64 x.v):=C6.cell (i:=3) (by decide);have ak:Hid (∀W,Calls Tryz.prog 177 #[.int .i64 x.d] W (zr (.bool (dS x.d)) W)):=zh (fun W=>(lM x.d W).mono fun e w' ⟨h,hw⟩=>⟨h,by rw[hw];exact Yb _ _⟩);obtain⟨dv,aB⟩:=zg (dS x.d);rw[aB]at ak;clear aB;cases k1:(x.k==1);rotate_left
      · skip;cases r6<;>cases c4:(x.c==0);(all_goals(go_upto_region 15 with fail));all_goals clear x2 x3 x4
        all_goals(
         first
         | (go_wp2_with fail
            go_ret
            exact⟨false,rfl,B6.o⟩)
         | (go_wp2_with fail
            refine(ak.o w6).mono ?_;rintro e w7 ⟨rfl,b7⟩;have B7:=zD B6 b7;have M7:=zh (M6.below b7);have x1:w7.cell? ⟨w4.heap.size,1,none⟩=some (.int .i64 x.d):=(C6.below b7).cell (i:=1) (by decide);have ae:=M7.look x.d;clear b7 B6 M6 x0;obtain⟨ux,af⟩:=zg (U x.d);rw[af]at ae;clear af;cases dv
            · go_wp2_with fail;go_ret;exact⟨false,rfl,B7.o⟩
            · cases ux;rotate_left
              · go_wp2_with fail;go_ret;exact⟨false,rfl,B7.o⟩
              · go_wp2_with(with_reducible refine zn ?_);refine zh (jd rfl rfl (.tmp 77) (.tmp 79) (.const (.bool true)) rfl x.d rfl rfl rfl M7.o ?_);intro w8 M8 O8;have B8:=zh (B7.trans (O8.below (Ya _) B7.size));clear O8 M7 B7 x1 ae;go_wp2_with fail;go_roundg(n - (j+1));case measure=>have :=ah.o;omega
                case rel=>
                     go_light
                     exact⟨j+1,_,by have :=ah.o;omega,by go_num,M8,B8⟩))
      cases k2:(x.k==2);rotate_left
      · skip;cases p0:(x.p==0)<;>cases v0:(x.v==0)<;>cases r7;(all_goals(go_upto_region 15 with fail));all_goals clear x2 x3 x4
        all_goals(
         first
         | (go_wp2_with fail
            go_ret
            exact⟨false,rfl,B6.o⟩)
         | (go_wp2_with fail
            refine(ak.o w6).mono ?_;rintro e w7 ⟨rfl,b7⟩;have B7:=zD B6 b7;have M7:=zh (M6.below b7);have x1:w7.cell? ⟨w4.heap.size,1,none⟩=some (.int .i64 x.d):=(C6.below b7).cell (i:=1) (by decide);have ae:=M7.look x.d;clear b7 B6 M6 x0;obtain⟨ux,af⟩:=zg (U x.d);rw[af]at ae;clear af;cases dv
            · go_wp2_with fail;go_ret;exact⟨false,rfl,B7.o⟩
            · cases ux;rotate_left
              · go_wp2_with fail;go_ret;exact⟨false,rfl,B7.o⟩
              · go_wp2_with(with_reducible refine zn ?_);refine zh (jd rfl rfl (.tmp 77) (.tmp 79) (.const (.bool true)) rfl x.d rfl rfl rfl M7.o ?_);intro w8 M8 O8;have B8:=zh (B7.trans (O8.below (Ya _) B7.size));clear O8 M7 B7 x1 ae;go_wp2_with fail;go_roundg(n - (j+1));case measure=>have :=ah.o;omega
                case rel=>
                     go_light
                     exact⟨j+1,_,by have :=ah.o;omega,by go_num,M8,B8⟩))
      cases k3:(x.k==3);rotate_left
      · skip;cases r6<;>cases r7;(all_goals(go_upto_region 15 with fail));all_goals clear x2 x3 x4
        all_goals(
         first
         | (go_wp2_with fail
            go_ret
            exact⟨false,rfl,B6.o⟩)
         | (go_wp2_with fail
            refine(ak.o w6).mono ?_;rintro e w7 ⟨rfl,b7⟩;have B7:=zD B6 b7;have M7:=zh (M6.below b7);have x1:w7.cell? ⟨w4.heap.size,1,none⟩=some (.int .i64 x.d):=(C6.below b7).cell (i:=1) (by decide);have ae:=M7.look x.d;clear b7 B6 M6 x0;obtain⟨ux,af⟩:=zg (U x.d);rw[af]at ae;clear af;cases dv
            · go_wp2_with fail;go_ret;exact⟨false,rfl,B7.o⟩
            · cases ux;rotate_left
              · go_wp2_with fail;go_ret;exact⟨false,rfl,B7.o⟩
              · go_wp2_with(with_reducible refine zn ?_);refine zh (jd rfl rfl (.tmp 77) (.tmp 79) (.const (.bool true)) rfl x.d rfl rfl rfl M7.o ?_);intro w8 M8 O8;have B8:=zh (B7.trans (O8.below (Ya _) B7.size));clear O8 M7 B7 x1 ae;go_wp2_with fail;go_roundg(n - (j+1));case measure=>have :=ah.o;omega
                case rel=>
                     go_light
                     exact⟨j+1,_,by have :=ah.o;omega,by go_num,M8,B8⟩))
      · skip;skip;(all_goals(go_upto_region 15 with fail));all_goals clear x2 x3 x4
        all_goals(
         first
         | (go_wp2_with fail
            go_ret
            exact⟨false,rfl,B6.o⟩)
         | (go_wp2_with fail
            refine(ak.o w6).mono ?_;rintro e w7 ⟨rfl,b7⟩;have B7:=zD B6 b7;have M7:=zh (M6.below b7);have x1:w7.cell? ⟨w4.heap.size,1,none⟩=some (.int .i64 x.d):=(C6.below b7).cell (i:=1) (by decide);have ae:=M7.look x.d;clear b7 B6 M6 x0;obtain⟨ux,af⟩:=zg (U x.d);rw[af]at ae;clear af;cases dv
            · go_wp2_with fail;go_ret;exact⟨false,rfl,B7.o⟩
            · cases ux;rotate_left
              · go_wp2_with fail;go_ret;exact⟨false,rfl,B7.o⟩
              · go_wp2_with(with_reducible refine zn ?_);refine zh (jd rfl rfl (.tmp 77) (.tmp 79) (.const (.bool true)) rfl x.d rfl rfl rfl M7.o ?_);intro w8 M8 O8;have B8:=zh (B7.trans (O8.below (Ya _) B7.size));clear O8 M7 B7 x1 ae;go_wp2_with fail;go_roundg(n - (j+1));case measure=>have :=ah.o;omega
                case rel=>
                     go_light
                     exact⟨j+1,_,by have :=ah.o;omega,by go_num,M8,B8⟩))
  · obtain⟨d0,d1⟩:=zk ai;clear ai hj q0;go_wp2_with fail;go_ret;exact⟨_,rfl,hB.o⟩
theorem ax.of_block{α:Type}{T:TypeId}{s:Nat}{c:α→Nat→Value}{W W':World}{base:Nat}{v:Value}{l:List α}(h:ax T s c W base v l)(hb:∀b,v.ownBlock=some b→W'.heap[b]? =W.heap[b]?):ax T s c W' base v l:=by
 obtain⟨h1,h2⟩:=h;refine⟨h1,?_⟩;rcases h2 with⟨rfl,h3⟩ | ⟨g,cap,cur,rfl,h3,h4,h5⟩
 · exact .inl ⟨rfl,h3⟩
 · exact .inr ⟨g,cap,cur,rfl,h3,(hb g rfl).trans h4,h5⟩
theorem ax.kf{α:Type}{T:TypeId}{s:Nat}{c:α→Nat→Value}{Fr:World→Nat→Prop}{W W':World}{base:Nat}{v:Value}{l:List α}(h:ax T s c W base v l)(hk:Kf Fr W W')(hf:∀b,v.ownBlock=some b→Fr W b):ax T s c W' base v l:=
 h.of_block fun b hb=>(hk.same b (h.lt b hb).2 (hf b hb)).1
theorem Body.yU{β:Type}{B:Nat}{J:β→World→Prop}{Fr:World→Nat→Prop}{s:β}{A C:World}(h:Body B J Fr)(hs:J s A)(b:Below A.heap.size A C){k:Nat}(hk:A.heap.size≤k):Fr C k:=
 h.grow _ _ _ _ none hs (h.fresh _ _ _ hs hk) (bD b) (fun r e=>by cases e)
def Ej(t:Tr)(au:Int)(i:Nat):List (Int×Int):=(qG t (vZ (anc au i))).map fun z=>((i:Int)+1,z)
def iP(t:Tr)(au:Int):Nat→List (Int×Int)
 | 0=>[]
 | i+1=>iP t au i++Ej t au i
def jA(t:Tr)(au:Int):List (Int×Int):=if dS au then iP t au 9 else []
def encP(x:Int×Int):Array Value:= #[.int .i64 x.1,.int .i64 x.2]
theorem Ad(t:Tr)(z:Int):(qG t z).length≤512:=by
 unfold qG;split
 · exact qI _ 9 _
 · exact Nat.zero_le _
theorem qZ(t:Tr)(au:Int):∀i,(iP t au i).length≤512*i
 | 0=>Ya _
 | i+1=>by
   have h1:=qZ t au i;have h2:=Ad t (vZ (anc au i));unfold iP Ej;rw[Yf,Yk];omega
theorem Ry(t:Tr)(au:Int){i k:Nat}(h:i≤k):(iP t au i).length≤(iP t au k).length:=by
 induction h with
 | refl=>exact Ya _
 | step _ ih=>rw[show ∀m,iP t au (m+1)=iP t au m++Ej t au m from fun _=>rfl,Yf];omega
theorem II(n:Nat)(t:Tr)(h:Hd)(au:Int)(A T:Nat)(w:World)(hA:ag w A 3 1 (bC au))(hT:ag w T 49 1 (fun _=>h.v))(ht:eY w h t)(hw:TrW t):
 tX n Tryz.prog 210 #[.pointer (some ⟨A,0,none⟩),.pointer (some ⟨T,0,none⟩)] encP (fun _ _=>True) (fun k=>k=T∨h.v.ownBlock=some k) (fun xs=>xs=jA t au) (jA t au).length w:=by
 intro l J Fr W hW hJ hN hY h0;show Calls _ _ #[.func (.yield l) #[] #[],.pointer (some ⟨A,0,none⟩),.pointer (some ⟨T,0,none⟩)] W _;have A0:=zh (hA.below hW);have T0:=zh (hT.below hW);have H0:=zh (ax.below ht hW);have HW:=zh hw;have HY:=zh hY;have HJ:=zh hJ;have J0:Hid (J [] W):=zh h0;have F0:Hid (Fr W T∧∀b,h.v.ownBlock=some b→Fr W b):=zh ⟨hN T (.inl rfl),fun b hb=>hN b (.inr hb)⟩;have x0:W.cell? ⟨A,0,none⟩=some (.int .i64 au):=A0.cell (i:=0) (by decide);obtain⟨R,hR⟩:=zg (jA t au);have HR:Hid (R=if dS au then iP t au 9 else []):=zh hR.symm;rw[hR]at HY ⊢;clear hA hT hW hJ hN hY h0 ht hw hR;go_in;go_wp2_with fail;refine(Ji au W).mono ?_;rintro e w1 ⟨u,rfl,ho,b1⟩;have O1:=zh ho;have J1:=zh (HJ.below J0.o b1);have K1:=zh (HJ.kf J0.o b1);have FU:Hid (∀b,u.ownBlock=some b→Fr w1 b):=zh (fun b hb=>HJ.yU J0.o b1 (ho.lt b hb).1)
 have F1:Hid (Fr w1 T∧∀b,h.v.ownBlock=some b→Fr w1 b):=zh ⟨(K1.same T T0.lt F0.1).2,fun b hb=>(K1.same b (H0.lt b hb).2 (F0.2 b hb)).2⟩;have T1:=zh (T0.below b1);have H1:=zh (ax.below H0.o b1);obtain⟨cs,ah⟩:=zg ((if dS au then Jf au else []));rw[ah]at O1;have CS:=zh ah;obtain⟨ua,uc,rfl⟩:=ho.slice;rw[ah];obtain⟨q,hq⟩:=zg cs.length;have HQ:=zh hq
 have Q9:Hid (q=(if dS au then 9 else 0)∧R=iP t au q∧∀i,i < q→cs.getD i 0=vZ (anc au i)):=zh (by
  rw[←hq,HR.o,←ah]
  cases hd:dS au with
  | false=>exact⟨rfl,rfl,fun i hi=>absurd hi (Nat.not_lt_zero i)⟩
  | true=>
    have e:(Jf au).length=9:=(by simp[Jf]);rw[if_pos rfl,if_pos rfl,if_pos rfl,e];refine⟨rfl,rfl,fun i hi=>?_⟩;unfold Jf
    rw[Yd,Xg,Xh hi];rfl)
 rw[ah,hq]at FU;rw[hq];clear x0 b1 ho ah hq J0 F0 T0 H0 A0;have az:Hid (q≤9):=zh (by rw[Q9.1];split<;>decide);have O2:Hid (ax 3 1 bC w1 W.heap.size (.slice ua q uc) cs):=zh (by have h:=O1.o;rwa[CS.o,HQ.o]at h);clear O1;go_wp2_with fail;go_loopg [19] q (fun g aG wx=>∃i:Nat,i+g=q∧aG=.int .i64 (i:Int)∧Hid (J (iP t au i) wx)∧Hid (Kf Fr w1 wx));case atStart=>exact⟨0,by omega,rfl,J1,zh (Kf.refl Fr w1)⟩
 case round=>
  clear J1;obtain⟨i,hi,rfl,hJ,hK⟩:=hrel;obtain⟨w3,rfl⟩:=zG wr;have q0:=Ye i;by_cases ae:i < q
  · obtain⟨d0,d1,q4,-⟩:=zl ae;have ai:=zh ae;have C3:Hid (ax 3 1 bC w3 W.heap.size (.slice ua q uc) cs):=zh (ax.kf O2.o hK.o FU.o);have SS:Hid (aN 1 w3 (.slice ua q uc) q (fun i=>bC (cs.getD i 0))):=zh (by have h:=C3.at' (0:Int) (by decide) (by decide) (by rw[HQ.o];have :=az.o;omega);rwa[HQ.o]at h);obtain⟨b,off,rfl,af,hb,hc⟩:=aN.aI (s:=1) (n:=q) (a:=ua) (k:=uc) (c:=fun i=>bC (cs.getD i 0)) SS.o ae
    have lk:w3.cell? ⟨b,off+i,none⟩=some (.int .i64 (vZ (anc au i))):=by
     have h:=hc i ae 0 (by decide);rw[Nat.one_mul]at h;rw[←Q9.2.2 i ae];exact h
    have LV:Hid (Ej t au i=(qG t (vZ (anc au i))).map fun z=>((i:Int)+1,z)):=zh rfl;obtain⟨sb,aA⟩:=zg (vZ (anc au i));rw[aA]at lk LV;have aK:=zw  ((i:Int)+1) (by have :=az.o;have :=ai.o;omega)
    have LR:Hid ((iP t au i).length+(Ej t au i).length≤R.length):=zh (by
     have h:=Ry t au (show i+1≤q from ai.o);rw[Q9.2.1];rw[show iP t au (i+1)=iP t au i++Ej t au i from rfl,Yf]at h
     exact h)
    have T3:Hid (ag w3 T 49 1 (fun _=>h.v)):=zh ((hK.same T T1.lt F1.1).1.trans T1.o);have H3:Hid (eY w3 h t):=zh (ax.kf H1.o hK.o F1.2);have KR:=zh (Vo t h sb w3 H3.o HW.o);clear af hb hc ae aA C3 SS;go_wp2_with(with_reducible refine zS 25 ?_);refine zh (zL T3 rfl YP ?_);clear lk d0 d1 q4;go_wp2_with fail;refine KR.mono ?_;rintro e w4 ⟨v,x,rfl,ho,b4⟩;have J4:=zh (HJ.below hJ.o b4);have k4:=HJ.kf hJ.o b4;have K4:=zh (hK.trans k4);have FV:Hid (∀b,v.ownBlock=some b→Fr w4 b):=zh (fun b hb=>HJ.yU hJ.o b4 (ho.lt b hb).1);obtain⟨ds,aj⟩:=zg (qG t sb);have DL:Hid (ds.length≤512):=zh (by rw[←aj];exact Ad t sb);rw[aj]at ho LV;obtain⟨da,dc,rfl⟩:=ho.slice;obtain⟨m,hm⟩:=zg ds.length;have HM:=zh hm;rw[hm]at ho FV DL ⊢;have O4:=zh ho;have I0:Hid (J (iP t au i++(ds.take 0).map fun z=>((i:Int)+1,z)) w4):=zh (by rw[List.take_zero,List.map_nil,List.append_nil];exact J4.o)
    clear ho b4 k4 aj hm KR T3 H3 hJ hK J4;go_wp2_with fail;go_loopg [32] m (fun g aJ wx=>∃j:Nat,j+g=m∧aJ=.int .i64 (j:Int)∧Hid (J (iP t au i++(ds.take j).map fun z=>((i:Int)+1,z)) wx)∧Hid (Kf Fr w4 wx));case atStart=>exact⟨0,by omega,rfl,I0,zh (Kf.refl Fr w4)⟩
    case round=>
     clear I0;obtain⟨j,hj,rfl,hJ,hK⟩:=hrel;obtain⟨w5,rfl⟩:=zG wr;have q1:=Ye j;by_cases ae:j < m
     · obtain⟨d0,d1,q4,-⟩:=zl ae;have ak:=zh ae;have SS:Hid (aN 1 w5 (.slice da m dc) m (fun i=>bC (ds.getD i 0))):=zh (by have h:=(ax.kf O4.o hK.o FV.o).at' (0:Int) (by decide) (by decide) (by rw[HM.o];have :=DL.o;omega);rwa[HM.o]at h);obtain⟨b2,ay,rfl,af,hb,hc⟩:=aN.aI (s:=1) (n:=m) (a:=da) (k:=dc) (c:=fun i=>bC (ds.getD i 0)) SS.o ae;have lk:w5.cell? ⟨b2,ay+j,none⟩=some (.int .i64 (ds.getD j 0)):=(by have h:=hc j ae 0 (by decide);rwa[Nat.one_mul]at h);have PK:Hid ((ds.take (j+1)).map (fun z=>((i:Int)+1,z))=(ds.take j).map (fun z=>((i:Int)+1,z))++[((i:Int)+1,ds.getD j 0)]):=zh (by rw[aH 0 ds (show j < ds.length by rw[HM.o];exact ae),Yn];rfl)
       have LT:Hid ((iP t au i++(ds.take j).map fun z=>((i:Int)+1,z)).length < R.length):=zh (by
        have h1:=LR.o;rw[LV.o,Yk,HM.o]at h1;rw[Yf,Yk,Yu,HM.o]
        omega)
       obtain⟨z,hz⟩:=zg (ds.getD j 0);rw[hz]at lk PK;have aB:=zh (HY.o _ ((i:Int)+1,z) w5 hJ.o trivial LT.o);clear af hb hc hz ae SS LT;go_upto_region 8 with fail;clear lk d0 d1 q4;refine(wpIn_wide (n:=n)).1 (wpIn_region_lit (bV 4 ?_));simp only[Xe,List.take_zero,Xf,List.drop_zero];go_wp2_with fail;unfold lF;dsimp only;refine dY rfl (.tmp 36) #[.tmp 38,.tmp 39] #[3,3] rfl l rfl #[.int .i64 ((i:Int)+1),.int .i64 z] rfl aB.o ?_;clear aB;rintro e w6 ⟨rfl,aC,aF⟩;have J6:Hid (J (iP t au i++(ds.take (j+1)).map fun z=>((i:Int)+1,z)) w6):=zh (by rw[PK.o,←Xa];exact aC);have K6:=zh (hK.trans aF);clear aC aF hJ hK PK;refine⟨_,rfl,bV 1 ?_⟩;simp only[Xe,List.take_zero,Xf,List.drop_zero];go_wp2_with fail;unfold lF;dsimp only;unfold wpListIn;have aO:=zw  ((j:Int)+1) (by have :=DL.o;have :=ak.o;omega);go_wp2_with fail;go_roundg(m - (j+1));case measure=>have :=ak.o;omega
       case rel=>
        go_light;exact⟨j+1,by have :=ak.o;omega,by go_num,J6,K6⟩
     · obtain⟨d0,d1⟩:=zk ae
       have J6:Hid (J (iP t au (i+1)) w5):=zh (by
        have h:=hJ.o;rw[Yq (by rw[HM.o];omega),←LV.o]at h
        exact h)
       have K6:=zh (K4.trans hK.o);clear ae hj q1 hJ hK;go_wp2_with fail;go_roundg(q - (i+1));case measure=>have :=ai.o;omega
       case rel=>
        go_light;exact⟨i+1,by have :=ai.o;omega,by go_num,J6,K6⟩
  · obtain⟨d0,d1⟩:=zk ae;have FX:Hid (∃xs,xs=R∧J xs w3):=zh ⟨_,rfl,by rw[Q9.2.1,show q=i by omega];exact hJ.o⟩;have K6:=zh (K1.trans hK.o);clear ae hi q0 hJ hK;go_wp2_with fail;go_end0;exact⟨⟨_,rfl⟩,by have h:=FX.o;simpa using h,K6.o⟩
theorem Qp:(Tryz.prog.info? 153).map (fun i=>(i.zero,i.size,i.bytes))=some (some (.agg #[.int .i64 0,.int .i64 0,.int .i64 0,.slice none 0 0]),4,48):=by kernel_rfl
theorem ED(h:Hd)(au:Int)(w:World):Calls Tryz.prog 180 #[trA h,.int .i64 au] w fun e w'=>e=.returned (.func (.func 210) #[] #[.pointer (some ⟨w.heap.size+1,0,none⟩),.pointer (some ⟨w.heap.size,0,none⟩)])∧w'=(w.alloc (.cells #[h.v] 49)).alloc (.cells #[.int .i64 au] 3):=by
 have ae:=zM Tryz.prog;go_in;go_wp2_with fail;go_ret;exact⟨by simp,rfl⟩
def bxN(x:Int×Int)(j:Nat):Value:=match j with | 0=>.int .i64 x.2 | 1=>.int .i64 x.1 | 2=>.int .i64 0 | _=>.slice none 0 0
def NdO(w w':World)(g:Gp)(au:Int)(l:List Chg)(e:Ending):Prop:=∃u x,∃l':List (Int×Int),e=.returned (.tuple #[u,.int .i64 x])∧ax 153 4 bxN w' w.heap.size u l'∧Below w.heap.size w w'∧
 (x=0→l'=jA (rn okT aU g.tr l) au∧iY g.mem au=decide (0 < g.e)∧(g.e=0→0 < l.length)∧g.mem.length≤1023)
theorem Gh(g:Gp)(v:GpV)(au:Int)(l:List Chg)(ca:Option Addr)(cc:Nat)(w:World)(hg:dV w g v)(hw:TrW g.tr)(hl:g.last.length=32)(ak:g.mem.length≤1000000)(hs:aN 5 w (.slice ca l.length cc) l.length (fun i=>chC (l.getD i ch0)))(hn:l.length≤1000000):
 Calls Tryz.prog 115 #[.agg (ah 36 (gpC g v)),.int .i64 au,.slice ca l.length cc] w fun e w'=>NdO w w' g au l e:=by
 have HW:=zh hw;have HL:=zh hl;have HM:=zh ak;have HN:=zh hn;have E0:=zh hg.1;have T0:=zh hg.2;have S0:=zh hs;clear hg hw hl ak hs hn;refine dX Tryz.func115 rfl ?_;simp only[Tryz.ntmps115,List.size_toArray,Yr,Xc,Nat.reduceAdd,Nat.reduceSub,Array.replicate_succ,Array.replicate_zero,List.push_toArray,List.append_toArray,List.nil_append,List.cons_append];have B0:=zh (Yb w.heap.size w);go_upto_region 1 with fail;obtain⟨w1,az,b1,z1,G1⟩:=zW w 51 36 (gpC g v);rw[az];(try rw[z1]);have B1:=zD B0 b1;have E1:=zh (E0.below b1);have T1:=zh (T0.below b1);have S1:=zh (S0.below b1);clear b1 az z1 B0 E0 T0 S0;have LY:=zh B1.size;obtain⟨w2,ae,b2,z2,Y2⟩:=zQ w1 (.cells #[.slice none 0 0] 68) 68 1 (fun _=>.slice none 0 0) rfl;rw[ae];(try rw[z2]);have B2:=zD B1 b2;have E2:=zh (E1.below b2);have T2:=zh (T1.below b2);have S2:=zh (S1.below b2);have G2:=zh (G1.below b2);clear b2 ae z2 B1 E1 T1 S1 G1
 have VA:=zh (vX g v w2 ⟨E2.o,T2.o⟩ HW.o HL.o HM.o);go_wp2_with(with_reducible refine zS 10 ?_);refine zh (zL G2 rfl YO ?_);go_wp2_with fail;refine VA.mono ?_;rintro e w3 ⟨r,rfl,hv,b3⟩;have V3:=zh hv;clear hv VA;have B3:=zD B2 b3;have E3:=zh (E2.below b3);have T3:=zh (T2.below b3);have S3:=zh (S2.below b3);have G3:=zh (G2.below b3);have Y3:=zh (Y2.below b3);clear b3 B2 E2 T2 S2 G2 Y2;have y0:w3.cell? ⟨w1.heap.size,0,none⟩=some (.slice none 0 0):=Y3.cell (i:=0) (by decide);have f0:=Y3.frozen 0
 cases r with
 | false=>
   go_wp2_with fail;have ob:=(aG.refl w1.heap.size w3).setCell (p:=⟨w1.heap.size,0,none⟩) (.inl rfl) (.slice none 0 0);have Z:ag (w3.setCell ⟨w1.heap.size,0,none⟩ (.slice none 0 0)) w1.heap.size 68 1 (fun _=>.slice none 0 0):=(Y3.set 0 _).congr (fun i hi=>by match i,hi with | 0,_=>rfl);exact⟨_,iC (P:=Tryz.prog) (fn:=Tryz.f115) (p:=6) (u:=7) (ty:=68) rfl _ _ w1.heap.size 68 (.slice none 0 0) rfl Z Tryz.isAgg68,.slice none 0 0,1,[],rfl,ax.nil _ _,B3.trans (ob.below LY.o B3.size),fun h=>absurd h (by decide)⟩
 | true=>
   clear y0 f0;have FO:=zh (sW l ca cc w3 S3.o HN.o);go_wp2_with fail;refine FO.mono ?_;rintro e w4 ⟨r2,rfl,b4⟩;clear FO;have B4:=zD B3 b4;have E4:=zh (E3.below b4);have T4:=zh (T3.below b4);have S4:=zh (S3.below b4);have G4:=zh (G3.below b4);have Y4:=zh (Y3.below b4);clear b4 B3 E3 T3 S3 G3 Y3
   cases r2 with
   | false=>
     have y0:w4.cell? ⟨w1.heap.size,0,none⟩=some (.slice none 0 0):=Y4.cell (i:=0) (by decide);have f0:=Y4.frozen 0;go_wp2_with fail;have ob:=(aG.refl w1.heap.size w4).setCell (p:=⟨w1.heap.size,0,none⟩) (.inl rfl) (.slice none 0 0);have Z:ag (w4.setCell ⟨w1.heap.size,0,none⟩ (.slice none 0 0)) w1.heap.size 68 1 (fun _=>.slice none 0 0):=(Y4.set 0 _).congr (fun i hi=>by match i,hi with | 0,_=>rfl);exact⟨_,iC (P:=Tryz.prog) (fn:=Tryz.f115) (p:=6) (u:=7) (ty:=68) rfl _ _ w1.heap.size 68 (.slice none 0 0) rfl Z Tryz.isAgg68,.slice none 0 0,221,[],rfl,ax.nil _ _,B4.trans (ob.below LY.o B4.size),fun h=>absurd h (by decide)⟩
   | true=>
     have PS:=zh (BK g v au l ca cc w4 E4.o HM.o S4.o HN.o);go_wp2_with(with_reducible refine zS 17 ?_);refine zh (aX rfl ?_);refine zL G4 rfl YO ?_;go_wp2_with fail;refine PS.mono ?_;rintro e w5 ⟨r3,rfl,hp,b5⟩;have P5:=zh hp;clear hp PS;have B5:=zD B4 b5;have T5:=zh (T4.below b5);have S5:=zh (S4.below b5);have G5:=zh (G4.below b5);have Y5:=zh (Y4.below b5);clear b5 B4 E4 T4 S4 G4 Y4
     cases r3 with
     | false=>
       have y0:w5.cell? ⟨w1.heap.size,0,none⟩=some (.slice none 0 0):=Y5.cell (i:=0) (by decide);have f0:=Y5.frozen 0;go_wp2_with fail;have ob:=(aG.refl w1.heap.size w5).setCell (p:=⟨w1.heap.size,0,none⟩) (.inl rfl) (.slice none 0 0);have Z:ag (w5.setCell ⟨w1.heap.size,0,none⟩ (.slice none 0 0)) w1.heap.size 68 1 (fun _=>.slice none 0 0):=(Y5.set 0 _).congr (fun i hi=>by match i,hi with | 0,_=>rfl);exact⟨_,iC (P:=Tryz.prog) (fn:=Tryz.f115) (p:=6) (u:=7) (ty:=68) rfl _ _ w1.heap.size 68 (.slice none 0 0) rfl Z Tryz.isAgg68,.slice none 0 0,221,[],rfl,ax.nil _ _,B5.trans (ob.below LY.o B5.size),fun h=>absurd h (by decide)⟩
     | true=>
       have RN:=zh (sZ g v l ca cc w5 T5.o HW.o S5.o HN.o);go_wp2_with(with_reducible refine zS 23 ?_);refine zh (zL G5 rfl YO ?_);go_wp2_with fail;refine RN.mono ?_;rintro e w6 ⟨hd,rfl,ht,b6⟩;have R6:=zh ht;clear ht RN;have B6:=zD B5 b6;have Y6:=zh (Y5.below b6);clear b6 B5 T5 S5 G5 Y5;have NC:=zh ED;go_wp2_with fail;refine(NC.o hd au w6).mono ?_;rintro e w7 ⟨rfl,rfl⟩;have b7:Below w6.heap.size w6 ((w6.alloc (.cells #[hd.v] 49)).alloc (.cells #[.int .i64 au] 3)):=((Yb _ w6).alloc (Ya _) _).alloc (by simp) _;have TC:Hid (ag ((w6.alloc (.cells #[hd.v] 49)).alloc (.cells #[.int .i64 au] 3)) w6.heap.size 49 1 (fun _=>hd.v)):=zh ((ag.new w6 49 1 (fun _=>hd.v)).below ((Yb _ _).alloc (Ya _) _))
       have AC:Hid (ag ((w6.alloc (.cells #[hd.v] 49)).alloc (.cells #[.int .i64 au] 3)) (w6.heap.size+1) 3 1 (bC au)):=zh (by
        have h:=ag.new (w6.alloc (.cells #[hd.v] 49)) 3 1 (bC au)
        rwa[Xi]at h)
       obtain⟨w7,aA⟩:=zg ((w6.alloc (.cells #[hd.v] 49)).alloc (.cells #[.int .i64 au] 3));rw[aA]at b7 TC AC ⊢;have Y7:=zh (Y6.below b7);have R7:=zh (ax.below R6.o b7);have B7:=zD B6 b7;have TY:Hid (w1.heap.size < w6.heap.size):=zh Y6.lt;obtain⟨tr,af⟩:=zg (rn okT aU g.tr l);have aI:=zh af;have TW:Hid (TrW tr):=zh (by rw[←af];exact Lm HW.o l);rw[af]at R7;have SQ:=zh (II 4 tr hd au (w6.heap.size+1) w6.heap.size w7 AC.o TC.o R7.o TW.o)
       have NL:Hid ((jA tr au).length≤4608):=zh (by
        unfold jA;split
        · exact qZ tr au 9
        · exact Nat.zero_le _)
       have PP:=zh (P5.o trivial);have VV:=zh (V3.o trivial);clear aA b7 af R6 Y6 B6 NC P5 V3 AC;go_wp2_with fail;have I0:ApI 153 68 4 bxN w w.heap.size w1.heap.size (.slice none 0 0) ([]++[]) w7:=⟨_,Y7.o,ax.nil _ _,ay.of_below _ B7.o⟩
       refine(wpIn_wide (n:=5)).1 (fP (by decide) (gf:=210) (lb:= #[.pointer (some ⟨w6.heap.size+1,0,none⟩),.pointer (some ⟨w6.heap.size,0,none⟩)]) rfl (enters_of Tryz.func210 (by kernel_rfl) rfl) SQ.o (Yb _ _) (fun _=>rfl)
        (fun pre W=>ApI 153 68 4 bxN w w.heap.size w1.heap.size (.slice none 0 0) ([]++pre) W) (ApF 68 w1.heap.size) (Kr B7.size)
        (fun k hk=>by
          rcases hk with rfl | hk
          · exact⟨Nat.ne_of_gt TY.o,fun u hu e=>by rw[←dQ Y7.o hu]at e;cases e⟩
          · exact⟨bM (by decide) R7.o Y7.o k hk,fun u hu e=>by rw[←dQ Y7.o hu]at e;cases e⟩) I0
        (fun x a' W=>a'={tmps:= #[.agg (ah 36 (gpC g v)),.int .i64 au,.slice ca l.length cc,.pointer (some ⟨w.heap.size,0,none⟩),undef,undef,.pointer (some ⟨w1.heap.size,0,none⟩),.int .i64 0,.int .i64 x.1,.int .i64 x.2,.agg (ah 36 (gpC g v)),.bool true,.bool false,.slice ca l.length cc,.bool true,.bool false,.bool false,.agg (ah 36 (gpC g v)),.int .i64 au,.slice ca l.length cc,.bool true,.bool false,.bool false,.agg (ah 36 (gpC g v)),.slice ca l.length cc,trA hd,.int .i64 au,.func (.func 210) #[] #[.pointer (some ⟨w6.heap.size+1,0,none⟩),.pointer (some ⟨w6.heap.size,0,none⟩)],.int .i64 x.1,.int .i64 x.2,undef,undef,undef,undef,undef,undef,undef],defers:=[]}) ?hAx ?assign ?body ?done)
       case hAx=>exact fun x a' s W W' row h _ _=>h
       case assign=>
        intro l' pre x W K hI hD aC hK;have HK:=zh hK;clear hI hD hK;rw[show(#[28,29]:Array Tmp).zip (encP x)= #[((28:Tmp),Value.int .i64 x.1),((29:Tmp),Value.int .i64 x.2)]from by unfold encP;first | rfl | simp | kernel_rfl];simp only[List.size_toArray,Yr,Xc,List.foldl_toArray',List.foldl_toArray,List.foldl_cons,List.foldl_nil,List.setIfInBounds_toArray,List.set_cons_succ,List.set_cons_zero];refine wpIn_seq (bU (fun⟨_,_,h⟩=>h) rfl ?_);go_wp2_with fail;refine bU (fun⟨_,_,h⟩=>h) rfl ?_;go_wp2_with fail;exact HK.o _ W (Yb _ _) rfl
       case body=>
        rintro l' pre x a' W hl hr hI rfl hlen aC;refine wpIn_block (bU (fun⟨_,_,h⟩=>(by cases h.1)) rfl ?_);obtain⟨u,h1,h2,h3⟩:=hI;obtain⟨ua,uc,rfl⟩:=h2.slice;have x0:W.cell? ⟨w1.heap.size,0,none⟩=some (.slice ua ([]++pre).length uc):=h1.cell (i:=0) (by decide);have f0:=h1.frozen 0;have H1:=zh h1;have H2:=zh h2;have H3:=zh h3;have aF:Hid (([]++pre:List (Int×Int)).length+1≤1000000):=zh (by have h1:=NL.o;rw[List.nil_append];omega);obtain⟨pl,aH⟩:=zg (([]++pre:List (Int×Int)));rw[←Xa];rw[aH]at x0 H1 H2 H3 aF ⊢;clear h1 h2 h3 hlen aC hl hr aH;go_wp2_with(with_reducible refine zS 35 ?_);refine zh ?_;have b2:Below W.heap.size W (W.alloc (.cells #[.int .i64 x.2,.int .i64 x.1,.int .i64 0,.slice none 0 0] 153)):=(Yb _ _).alloc (Ya _) _;have R2:Hid (ag (W.alloc (.cells #[.int .i64 x.2,.int .i64 x.1,.int .i64 0,.slice none 0 0] 153)) W.heap.size 153 4 (bxN x)):=zh (ag.new W 153 4 (bxN x))
        obtain⟨w2,ae⟩:=zg (W.alloc (.cells #[.int .i64 x.2,.int .i64 x.1,.int .i64 0,.slice none 0 0] 153));rw[ae]at b2 R2 ⊢;have O2:=zh (H2.below b2);have B2:=zh b2;have S2:Hid (w.heap.size≤W.heap.size):=zh (by have :=H1.lt;have :=LY.o;omega);clear ae b2 x0
        refine bH rfl (.tmp 30) (.tmp 34) Qp Tryz.underlying68 rfl (by decide) (by decide) (fun u j=>by unfold bxN;split<;>rfl) ((0,0):Int×Int) rfl w.heap.size (.slice ua pl.length uc) pl rfl O2.o W.heap.size 1 [x] rfl (fun i hi j hj=>by
         obtain rfl:i=0:=(by simp at hi;exact hi);rw[Nat.mul_zero,Yl]
         exact R2.cell hj) (by have h1:=aF.o;show pl.length+1≤1000000;omega) (Yc S2.o B2.size) ?_
        intro v3 w3 O3 s3;obtain⟨e1,e2⟩:=BQ (T:=153) (Ts:=68) (by decide) LY.o H1.o H2.o H3.o O3.o ((ay.of_below _ B2.o).trans s3.o);have f1:w3.frozen? ⟨w1.heap.size,0,none⟩=false:=(s3.row (H1.below B2.o) (fun e=>bM (by decide) H2.o H1.o _ e rfl)).frozen 0;obtain⟨xu,x1⟩:∃u,w3.cell? ⟨w1.heap.size,0,none⟩=some u:=⟨_,(s3.row (H1.below B2.o) (fun e=>bM (by decide) H2.o H1.o _ e rfl)).cell (i:=0) (by decide)⟩;obtain⟨va,vc,rfl⟩:=O3.slice;have E1:=zh e1;have E2:=zh e2;rw[show(pl++[x]).length=pl.length+1 from by simp]at E1 E2;clear e1 e2 s3 O3 R2 O2 H1 H2 H3 B2 f0;go_wp2_with fail;exact⟨trivial,E1.o,E2.o⟩
       case done =>
        intro D xs W hD hS hI hF hK _;subst hS;rw[List.nil_append]at hI;obtain⟨u,h1,h2,h3⟩:=hI;obtain⟨ua,uc,rfl⟩:=h2.slice;have HL:=zh (show w.heap.size≤D from Yc B7.size hD);have x0:=h1.cell (i:=0) (by decide);have f0:=h1.frozen 0;obtain⟨xs,ai⟩:=zg (jA tr au);have HX:=zh ai;rw[ai]at h1 h2 h3 x0;have ob:=(aG.refl w1.heap.size W).setCell (p:=⟨w1.heap.size,0,none⟩) (.inl rfl) (.slice ua xs.length uc);have Z4:Hid (ag (W.setCell ⟨w1.heap.size,0,none⟩ (.slice ua xs.length uc)) w1.heap.size 68 1 (fun _=>.slice ua xs.length uc)):=zh ((h1.set 0 _).congr (fun i hi=>by match i,hi with | 0,_=>rfl));have O4:=zh (h2.aB h1 (by decide) ob);have D4:=zh ((ob.block D (Yi.1 hK).1 (fun e=>by subst e;rw[show W.heap[w1.heap.size]? =_ from h1]at hK;cases hK)).trans hK);have B4:=zh ((aO h3 (Ya _) (fun k e=>by cases e)).trans (ob.below LY.o h3.1.size));obtain⟨q,hq⟩:=zg xs.length;rw[hq]at x0 Z4 O4 B4 D4
        clear h1 h2 h3 hK hD ob hF ai hq I0;go_wp2_with fail;have hK:=D4.o;refine⟨by simp,.inl ⟨_,_,rfl,run_takeDeferred hK,?_⟩⟩;have gp:=grownBy_putObj' (W.setCell ⟨w1.heap.size,0,none⟩ (.slice ua q uc)) D (.deferred none);have Z5:=fV Z4.o gp (B:=0) (fun r e=>by cases e;exact⟨Nat.zero_le _,_,hK,rfl⟩);have aj:=iC (P:=Tryz.prog) (fn:=Tryz.f115) (p:=6) (u:=7) (ty:=68) rfl;refine⟨_,aj _ _ w1.heap.size 68 (.slice ua q uc) rfl Z5 Tryz.isAgg68,.slice ua q uc,0,xs,rfl,?_,?_,fun _=>⟨?_,PP.1,PP.2,VV.o⟩⟩
        · exact O4.grow (B:=0) gp (fun r e=>by cases e;exact⟨Nat.zero_le _,_,hK,rfl⟩)
        · exact B4.grown gp B4.size (fun k e=>by cases e;exact HL.o)
        · rw[←HX.o,aI.o]
def wpC(u:Int)(h:Hd)(j:Nat):Value:=match j with | 0=>.int .i64 u | _=>h.v
def GN(u:Int)(n:Nat):Int:=if !aU u then 90 else if n < 16 then 90 else if 65552 < n then 90 else 0
theorem vW(u:Int)(h:Hd)(w:World):Calls Tryz.prog 101 #[.agg (ah 2 (wpC u h))] w (zr (.int .i64 (GN u h.n)) w):=by
 obtain⟨a,n,k⟩:=h;have CK:Hid (∀W,Calls Tryz.prog 150 #[.int .i64 u] W (zr (.int .i64 (chk u)) W)):=zh (check_any u);have EC:Hid (chk u=if aU u then 0 else 40):=zh rfl;have ER:Hid (GN u n=if !aU u then 90 else if n < 16 then 90 else if 65552 < n then 90 else 0):=zh rfl;obtain⟨R,hR⟩:=zg (GN u n);obtain⟨cx,ae⟩:=zg (chk u);obtain⟨ex,hex⟩:=zg (aU u);rw[hR,hex]at ER;rw[ae]at CK;rw[ae,hex]at EC;show Calls _ _ _ _ (zr (.int .i64 (GN u n)) w);rw[hR];clear hR ae hex;go_in;have B0:=zh (Yb w.heap.size w);go_upto_region 1 with fail;obtain⟨w1,af,b1,z1,Z1⟩:=zW w 142 2 (wpC u ⟨a,n,k⟩);rw[af];(try rw[z1]);have B1:=zD B0 b1;clear b1 af z1 B0;have x0:w1.cell? ⟨w.heap.size,0,none⟩=some (.int .i64 u):=Z1.cell (i:=0) (by decide);have x1:w1.cell? ⟨w.heap.size,1,none⟩=some (.slice a n k):=Z1.cell (i:=1) (by decide);go_wp2_with fail;refine(CK.o w1).mono ?_;rintro e w2 ⟨rfl,b2⟩;have B2:=zD B1 b2;clear b2 B1 Z1
 clear x0 x1 CK
 cases ex with
 | false=>
   obtain rfl:cx=40:=EC.o;obtain rfl:R=90:=ER.o;clear EC ER;go_wp2_with fail;go_ret;exact⟨rfl,B2.o⟩
 | true=>
   obtain rfl:cx=0:=EC.o;by_cases h1:n < 16
   · have d0:decide ((n:Int) < 16)=true:=zt (by omega);have d1:decide (n < 16)=true:=zt h1;obtain rfl:R=90:=(by rw[ER.o];simp[h1]);clear EC ER h1;go_wp2_with fail;go_ret;exact⟨rfl,B2.o⟩
   · have d0:decide ((n:Int) < 16)=false:=zT (by omega);have d1:decide (n < 16)=false:=zT h1;by_cases h2:65552 < n
     · have d2:decide ((65552:Int) < (n:Int))=true:=zt (by omega);have d3:decide (65552 < n)=true:=zt h2;obtain rfl:R=90:=(by rw[ER.o];simp[h1,h2]);clear EC ER h1 h2;go_wp2_with fail;go_ret;exact⟨rfl,B2.o⟩
     · have d2:decide ((65552:Int) < (n:Int))=false:=zT (by omega);have d3:decide (65552 < n)=false:=zT h2;obtain rfl:R=0:=(by rw[ER.o];simp[h1,h2]);clear EC ER h1 h2;go_wp2_with fail;go_ret;exact⟨rfl,B2.o⟩
def ChkO(w w':World)(c:Cm)(e:Ending):Prop:=∃x:Int,e=.returned (.int .i64 x)∧Below w.heap.size w w'∧(x=0→dS c.au=true∧1≤c.e∧c.e≤1099511627776∧c.pth.length=10)
theorem IU(c:Cm)(v:CmV)(w:World)(hc:kM w c v)(h1:c.chs.length≤1000000)(h2:c.pth.length≤1000000)(h3:c.bxs.length≤1000000)(h4:c.wls.length≤1000000):
 Calls Tryz.prog 114 #[.agg (ah 73 (cmC c v))] w fun e w'=>ChkO w w' c e:=by
 obtain⟨⟨ca,cn,ck⟩,⟨pa,pn,pk⟩,⟨ba,bn,bk⟩,⟨wa,wn,wk⟩⟩:=v;obtain⟨aC,aF,⟨us,aG,bH⟩,aH,aJ,bI⟩:=hc;obtain rfl:cn=c.chs.length:=(by obtain⟨a,k,e⟩:=aC.slice;cases e;rfl);obtain rfl:pn=c.pth.length:=(by obtain⟨a,k,e⟩:=aF.slice;cases e;rfl);obtain rfl:bn=c.bxs.length:=(by obtain⟨a,k,e⟩:=aG.slice;cases e;rfl);obtain rfl:wn=c.wls.length:=(by obtain⟨a,k,e⟩:=aJ.slice;cases e;rfl);have C0:=zh aC;have P0:=zh aF;have X0:=zh aG;have W0:=zh aJ;have Q1:=zh h1;have Q2:=zh h2;have Q3:=zh h3;have Q4:=zh h4;have IF:Hid (∀W,Calls Tryz.prog 170 #[.int .i64 c.f] W (zr (.bool (decide (0≤c.f)&&decide (c.f < 16))) W)):=zh (fun W=>(qf c.f W).mono fun e w' ⟨h,hw⟩=>⟨h,by rw[hw];exact Yb _ _⟩);have ID:Hid (∀W,Calls Tryz.prog 177 #[.int .i64 c.au] W (zr (.bool (dS c.au)) W)):=zh (fun W=>(lM c.au W).mono fun e w' ⟨h,hw⟩=>⟨h,by rw[hw];exact Yb _ _⟩);clear aC aF aG bH aJ bI h1 h2 h3 h4;obtain⟨n1,aK⟩:=zg c.chs.length
 obtain⟨n2,ak⟩:=zg c.pth.length;obtain⟨n3,aO⟩:=zg c.bxs.length;obtain⟨n4,aP⟩:=zg c.wls.length;have L2:=zh ak
 have FO:Hid (∀W,Below w.heap.size w W→Calls Tryz.prog 178 #[.slice ca n1 ck] W fun e w'=>YH W w' e):=zh (fun W b=>by
  have h:=sW c.chs ca ck W (C0.below b) Q1.o
  rwa[aK]at h)
 rw[ak]at P0 Q2;rw[aO]at X0 Q3;rw[aP]at W0 Q4;obtain⟨V,hV⟩:∃y:CmV,(⟨⟨ca,c.chs.length,ck⟩,⟨pa,c.pth.length,pk⟩,⟨ba,c.bxs.length,bk⟩,⟨wa,c.wls.length,wk⟩⟩:CmV)=y:=⟨_,rfl⟩;have HV:Hid (V.ch.v=.slice ca n1 ck∧V.pt.v=.slice pa n2 pk∧V.bx.v=.slice ba n3 bk∧V.wl.v=.slice wa n4 wk):=zh (by subst hV;rw[←aK,←ak,←aO,←aP];exact⟨rfl,rfl,rfl,rfl⟩);rw[hV];clear aK ak aO aP hV C0 Q1;go_in;have B0:=zh (Yb w.heap.size w);go_upto_region 1 with fail;obtain⟨w1,aU,b1,z1,Z1⟩:=zW w 71 73 (cmC c V);rw[aU];(try rw[z1]);have B1:=zD B0 b1;clear b1 aU z1 B0;(try dsimp only[Act.put]);go_cut [52]from 9 to 52 (fun bJ wx=>(∃r,bJ=.bool r∧Hid (r=false→dS c.au=true∧1≤c.e∧c.e≤1099511627776∧n2=10))∧Hid (ag wx w.heap.size 71 73 (cmC c V))∧Hid (Below w.heap.size w wx))
 case first =>
  have x0:w1.cell? ⟨w.heap.size,0,none⟩=some (.int .i64 c.f):=Z1.cell (i:=0) (by decide);go_wp2_with fail;refine(IF.o w1).mono ?_;rintro e w2 ⟨rfl,b2⟩;have B2:=zD B1 b2;have Z2:=zh (Z1.below b2);clear b2 B1 Z1;clear x0;obtain⟨fo,aV⟩:=zg ((decide (0≤c.f)&&decide (c.f < 16)));rw[aV];clear aV;have x1:w2.cell? ⟨w.heap.size,1,none⟩=some (.int .i64 c.e):=Z2.cell (i:=1) (by decide);have bK:w2.cell? ⟨w.heap.size,34,none⟩=some (.int .i64 c.au):=Z2.cell (i:=34) (by decide)
  cases fo with
  | false=>
    go_wp2_with fail;go_meet;exact⟨⟨true,rfl,zh (fun h=>by cases h)⟩,Z2,B2⟩
  | true=>
  cases d0:decide (c.e < 1);rotate_left
  · skip;go_wp2_with fail;go_meet;exact⟨⟨true,rfl,zh (fun h=>by cases h)⟩,Z2,B2⟩
  cases d1:decide (1099511627776 < c.e);rotate_left
  · skip;go_wp2_with fail;go_meet;exact⟨⟨true,rfl,zh (fun h=>by cases h)⟩,Z2,B2⟩
  go_wp2_with fail;refine(ID.o w2).mono ?_;rintro e w3 ⟨rfl,b3⟩;have B3:=zD B2 b3;have Z3:=zh (Z2.below b3);clear b3 B2 Z2;obtain⟨dv,ay⟩:=zg (dS c.au);rw[ay];have DV:=zh ay;clear ay x1 bK;have bM:w3.cell? ⟨w.heap.size,35,none⟩=some (.slice ca n1 ck):=by rw[←HV.1];exact Z3.cell (i:=35) (by decide)
  cases dv with
  | false=>
    go_wp2_with fail;go_meet;exact⟨⟨true,rfl,zh (fun h=>by cases h)⟩,Z3,B3⟩
  | true=>
  go_wp2_with fail;refine(FO.o w3 B3.o).mono ?_;rintro e w4 ⟨r4,rfl,b4⟩;have B4:=zD B3 b4;have Z4:=zh (Z3.below b4);clear b4 B3 Z3;clear bM;have aW:w4.cell? ⟨w.heap.size,36,none⟩=some (.slice pa n2 pk):=(by rw[←HV.2.1];exact Z4.cell (i:=36) (by decide));have aZ:w4.cell? ⟨w.heap.size,37,none⟩=some (.slice ba n3 bk):=(by rw[←HV.2.2.1];exact Z4.cell (i:=37) (by decide));have bf:w4.cell? ⟨w.heap.size,38,none⟩=some (.slice wa n4 wk):=by rw[←HV.2.2.2];exact Z4.cell (i:=38) (by decide)
  cases r4 with
  | false=>
    go_wp2_with fail;go_meet;exact⟨⟨true,rfl,zh (fun h=>by cases h)⟩,Z4,B4⟩
  | true=>
  by_cases ak:n2=10;rotate_left
  · have e0:((n2:Int)!=10)=true:=(by rw[bne_iff_ne];omega);clear ak;go_wp2_with fail;go_meet;exact⟨⟨true,rfl,zh (fun h=>by cases h)⟩,Z4,B4⟩
  subst ak;cases d3:decide ((1024:Int) < (n3:Int));rotate_left
  · have bP:decide (1024 < n3)=true:=(by rw[decide_eq_true_iff]at d3 ⊢;omega);go_wp2_with fail;go_meet;exact⟨⟨true,rfl,zh (fun h=>by cases h)⟩,Z4,B4⟩
  have bP:decide (1024 < n3)=false:=(by rw[decide_eq_false_iff_not]at d3 ⊢;omega);cases d4:decide ((512:Int) < (n4:Int));rotate_left
  · have bQ:decide (512 < n4)=true:=(by rw[decide_eq_true_iff]at d4 ⊢;omega);go_wp2_with fail;go_meet;exact⟨⟨true,rfl,zh (fun h=>by cases h)⟩,Z4,B4⟩
  have bQ:decide (512 < n4)=false:=(by rw[decide_eq_false_iff_not]at d4 ⊢;omega);have az:Hid (dS c.au=true∧1≤c.e∧c.e≤1099511627776∧(10:Nat)=10):=zh ⟨DV.o,by rw[decide_eq_false_iff_not]at d0;omega,by rw[decide_eq_false_iff_not]at d1;omega,rfl⟩;go_wp2_with fail;go_meet;exact⟨⟨false,rfl,zh (fun _=>az.o)⟩,Z4,B4⟩
 case rest=>
  rename World=>w5
  obtain⟨⟨r,rfl,hr⟩,Z5,B5⟩:=hcut
  cases r with
  | true=>
    go_wp2_with fail;go_ret;exact⟨220,rfl,B5.o,fun h=>absurd h (by decide)⟩
  | false=>
    have az:=zh (hr.o rfl);have aW:w5.cell? ⟨w.heap.size,36,none⟩=some (.slice pa n2 pk):=(by rw[←HV.2.1];exact Z5.cell (i:=36) (by decide));clear hr;go_wp2_with fail;clear aW;go_loopg [56] n2 (fun g bT wx=>∃j:Nat,j+g=n2∧bT=.int .i64 (j:Int)∧Hid (ag wx w.heap.size 71 73 (cmC c V))∧Hid (Below w.heap.size w wx));case atStart=>exact⟨0,by omega,rfl,Z5,B5⟩
    case round=>
     clear Z5 B5;obtain⟨j,hj,rfl,hZ,hB⟩:=hrel;obtain⟨w6,rfl⟩:=zG wr;have q0:=Ye j;by_cases ae:j < n2
     · obtain⟨d0,d1,q4,-⟩:=zl ae;have ai:=zh ae;obtain⟨b,off,rfl,af,hb,hc⟩:=aN.aI (s:=1) (n:=n2) (a:=pa) (k:=pk) (c:=fun i _=>.int .i64 (c.pth.getD i 0)) (P0.below hB.o) ae;have lk:w6.cell? ⟨b,off+j,none⟩=some (.int .i64 (c.pth.getD j 0)):=(by have h:=hc j ae 0 (by decide);rwa[Nat.one_mul]at h);have bg:=zw  ((j:Int)+1) (by have :=Q2.o;omega);obtain⟨y,hy⟩:=zg (c.pth.getD j 0);rw[hy]at lk;have CK:=zh (check_any y w6);obtain⟨cy,bu⟩:=zg (chk y);rw[bu]at CK;clear af hb hc ae hy bu;go_wp2_with fail;refine CK.mono ?_;rintro e w7 ⟨rfl,b7⟩;have Z7:=zh (hZ.below b7);have B7:=zD hB b7;clear b7 CK hZ hB lk d0 d1 q4;by_cases aQ:cy=0
       · subst aQ;go_wp2_with fail;go_roundg(n2 - (j+1));case measure=>have :=ai.o;omega
         case rel=>
          go_light;exact⟨j+1,by have :=ai.o;omega,by go_num,Z7,B7⟩
       · have e0:(cy !=0)=true:=(by rw[bne_iff_ne];exact aQ);clear aQ;go_wp2_with fail;go_ret;exact⟨220,rfl,B7.o,fun h=>absurd h (by decide)⟩
     · obtain⟨d0,d1⟩:=zk ae;have Z6:=hZ;have B6:=hB;have aZ:w6.cell? ⟨w.heap.size,37,none⟩=some (.slice ba n3 bk):=(by rw[←HV.2.2.1];exact Z6.cell (i:=37) (by decide));clear ae hj q0 hZ hB;go_wp2_with fail;clear aZ;go_loopg [67] n3 (fun g bU wx=>∃j:Nat,j+g=n3∧bU=.int .i64 (j:Int)∧Hid (ag wx w.heap.size 71 73 (cmC c V))∧Hid (Below w.heap.size w wx));case atStart=>exact⟨0,by omega,rfl,Z6,B6⟩
       case round=>
        clear Z6 B6;obtain⟨j,hj,rfl,hZ,hB⟩:=hrel;obtain⟨w6,rfl⟩:=zG wr;have q0:=Ye j;by_cases ae:j < n3
        · obtain⟨d0,d1,-⟩:=zl ae;have ai:=zh ae;obtain⟨b,off,rfl,af,hb,hc⟩:=aN.aI (s:=4) (n:=n3) (a:=ba) (k:=bk) (c:=fun i=>bxC (c.bxs.getD i bx0) (us i)) (X0.below hB.o) ae;have ax:=zh (fun i hi=>hc j ae i hi);obtain⟨x,hx⟩:=zg (c.bxs.getD j bx0);obtain⟨u,hu⟩:=zg (us j);rw[hx,hu]at ax;have bg:=zw  ((j:Int)+1) (by have :=Q3.o;omega);clear af hb hc ae hx hu;go_upto_region 11 with fail;go_wp2_with(with_reducible refine zS 70 ?_);refine zh (zE b (off+j*4) rfl YX off j (by rw[Ym]) (bxC x u) ax.o ?_);have B6:=hB;have Z6:=hZ;clear hB hZ ax d0 d1;have Zr:=zh (ag.new w6 153 4 (bxC bx0 hd0));go_upto_region 12 with((with_reducible refine zN ?_);refine zV Zr rfl (bxC x u) rfl YX (fun j _=>by unfold bxC;split<;>rfl) ?_;intro w7 C7 o7);have b7:Below w6.heap.size w6 w7:=zO o7;have B7:=zD B6 b7;have Z7:=zh (Z6.below b7);clear b7 o7 Zr B6 Z6
          have c0:w7.cell? ⟨w6.heap.size,0,none⟩=some (.int .i64 x.n):=C7.cell (i:=0) (by decide);have c1:w7.cell? ⟨w6.heap.size,1,none⟩=some (.int .i64 x.l):=C7.cell (i:=1) (by decide);have WK:=zh (vW x.u u w7);obtain⟨ew,aA⟩:=zg (GN x.u u.n);rw[aA]at WK;obtain⟨xn,bz⟩:=zg x.n;obtain⟨xl,bC⟩:=zg x.l;rw[bz]at c0;rw[bC]at c1;clear aA bz bC;dsimp only[Act.put];go_cut [94]from 71 to 94 (fun bV wx=>(∃r:Bool,bV=.bool r)∧Hid (ag wx w.heap.size 71 73 (cmC c V))∧Hid (Below w.heap.size w wx))
          case first =>
           cases e0:decide (xn < 1);rotate_left
           · skip;go_wp2_with fail;go_meet;exact⟨⟨true,rfl⟩,Z7,B7⟩
           cases e1:decide (1024≤xn);rotate_left
           · skip;go_wp2_with fail;go_meet;exact⟨⟨true,rfl⟩,Z7,B7⟩
           cases e2:decide (xl < 1);rotate_left
           · skip;go_wp2_with fail;go_meet;exact⟨⟨true,rfl⟩,Z7,B7⟩
           cases e3:decide (9 < xl);rotate_left
           · skip;go_wp2_with fail;go_meet;exact⟨⟨true,rfl⟩,Z7,B7⟩
           go_wp2_with(with_reducible refine zS 91 ?_);refine zh (aX rfl ?_);refine zP C7 2 rfl Zm (wpC x.u u) (by decide) (fun j hj=>by match j,hj with | 0,_=>rfl | 1,_=>rfl) ?_;go_wp2_with fail;refine(WK.o).mono ?_;rintro e w8 ⟨rfl,b8⟩;have B8:=zD B7 b8;have Z8:=zh (Z7.below b8);clear b8 B7 Z7 C7;go_wp2_with fail;go_meet;exact⟨⟨_,rfl⟩,Z8,B8⟩
          case rest=>
           rename World=>w8
           obtain⟨⟨r,rfl⟩,Z8,B8⟩:=hcut
           cases r with
           | true=>
             go_wp2_with fail;go_ret;exact⟨220,rfl,B8.o,fun h=>absurd h (by decide)⟩
           | false=>
             clear c0 c1 WK C7;go_wp2_with fail;go_roundg(n3 - (j+1));case measure=>have :=ai.o;omega
             case rel=>
                   go_light;exact⟨j+1,by have :=ai.o;omega,by go_num,Z8,B8⟩
        · obtain⟨d0,d1⟩:=zk ae;have Z6:=hZ;have B6:=hB;have bf:w6.cell? ⟨w.heap.size,38,none⟩=some (.slice wa n4 wk):=(by rw[←HV.2.2.2];exact Z6.cell (i:=38) (by decide));clear ae hj q0 hZ hB;go_wp2_with fail;clear bf;go_loopg [99] n4 (fun g bW wx=>∃j:Nat,j+g=n4∧bW=.int .i64 (j:Int)∧Hid (ag wx w.heap.size 71 73 (cmC c V))∧Hid (Below w.heap.size w wx));case atStart=>exact⟨0,by omega,rfl,Z6,B6⟩
          case round=>
           clear Z6 B6;obtain⟨j,hj,rfl,hZ,hB⟩:=hrel;obtain⟨w6,rfl⟩:=zG wr;have q0:=Ye j;by_cases ae:j < n4
           · obtain⟨d0,d1,-⟩:=zl ae;have ai:=zh ae;obtain⟨b,off,rfl,af,hb,hc⟩:=aN.aI (s:=3) (n:=n4) (a:=wa) (k:=wk) (c:=fun i=>wlC (c.wls.getD i wl0) (aH i)) W0.o ae;have bY:=zh hb;have ax:Hid (∀i,i < 3→w6.cell? ⟨b,off+3*j+i,none⟩=some (wlC (c.wls.getD j wl0) (aH j) i)):=zh (fun i hi=>(hB.cell (p:=⟨b,off+3*j+i,none⟩) hb).trans (hc j ae i hi));have XP:Hid (∀p,j=p+1→w.cell? ⟨b,off+3*p,none⟩=some (.int .i64 (c.wls.getD p wl0).d)):=zh (fun p hp=>hc p (by omega) 0 (by decide));obtain⟨x,hx⟩:=zg (c.wls.getD j wl0);obtain⟨u,hu⟩:=zg (aH j);rw[hx,hu]at ax;have bg:=zw  ((j:Int)+1) (by have :=Q4.o;omega);clear af hb hc ae hx hu;go_upto_region 17 with fail;go_wp2_with(with_reducible refine zS 103 ?_);refine zh (zE b (off+j*3) rfl YY off j (by rw[Ym]) (wlC x u) ax.o ?_);have B6:=hB;have Z6:=hZ;clear hB hZ ax d0 d1;have Zr:=zh (ag.new w6 155 3 (wlC wl0 hd0))
             go_upto_region 18 with((with_reducible refine zN ?_);refine zV Zr rfl (wlC x u) rfl YY (fun j _=>by unfold wlC;split<;>rfl) ?_;intro w7 C7 o7);have b7:Below w6.heap.size w6 w7:=zO o7;have B7:=zD B6 b7;have Z7:=zh (Z6.below b7);clear b7 o7 Zr B6 Z6;have c0:w7.cell? ⟨w6.heap.size,0,none⟩=some (.int .i64 x.d):=C7.cell (i:=0) (by decide);have bD:w7.cell? ⟨w.heap.size,38,none⟩=some (.slice (some ⟨b,off,none⟩) n4 wk):=(by rw[←HV.2.2.2];exact Z7.cell (i:=38) (by decide));have aB:Hid (∀p,j=p+1→w7.cell? ⟨b,off+3*p,none⟩=some (.int .i64 (c.wls.getD p wl0).d)):=zh (fun p hp=>(B7.cell (p:=⟨b,off+3*p,none⟩) bY.o).trans (XP.o p hp));have DI:Hid (∀W,Below w7.heap.size w7 W→Calls Tryz.prog 177 #[.int .i64 x.d] W (zr (.bool (dS x.d)) W)):=zh (fun W _=>(lM x.d W).mono fun e w' ⟨h,hw⟩=>⟨h,by rw[hw];exact Yb _ _⟩)
             have DW:Hid (∀W,Below w7.heap.size w7 W→Calls Tryz.prog 101 #[.agg (ah 2 (wpC x.u u))] W (zr (.int .i64 (GN x.u u.n)) W)):=zh (fun W _=>vW x.u u W);have qc:=fun d os=>cell_regrown c0 d os;have qz:=fun d os=>cell_regrown bD d os;obtain⟨ew,aA⟩:=zg (GN x.u u.n);obtain⟨dv,ay⟩:=zg (dS x.d);rw[aA]at DW;rw[ay]at DI;obtain⟨xd,bF⟩:=zg x.d;rw[bF]at qc DI;clear c0 bD aA ay bF XP;dsimp only[Act.put];go_cut [129]from 104 to 129 (fun aS wx=>(∃r:Bool,aS=.bool r)∧Hid (ag wx w.heap.size 71 73 (cmC c V))∧Hid (Below w.heap.size w wx))
             case first =>
                   cases dv
                   · clear aB;refine wp_region_quiet_below (by kernel_rfl) (by kernel_rfl) ?_;(repeat(first | go_big_quiet_step (first | with_reducible exact jg DI.o _ _ | with_reducible exact jg DW.o _ _) | ((try refine aY rfl ?_);refine zq w6.heap.size 1 rfl 3 Zm (wlC x u) (wpC x.u u) (fun W hW=>C7.below (aT hW)) (by decide) (fun j hj=>by match j,hj with | 0,_=>rfl | 1,_=>rfl) ?_;simp only[Act.put,zu])));refine wpQuiet_nil ?_;intro w8 aj;have b8:=aT aj;have Z8:=zh (Z7.below b8);have B8:=zD B7 b8;clear aj b8;go_wp2_with fail;go_meet;exact⟨⟨_,rfl⟩,Z8,B8⟩
                   · by_cases k0:j=0
                     · subst k0;clear aB;refine wp_region_quiet_below (by kernel_rfl) (by kernel_rfl) ?_;(repeat(first | go_big_quiet_step (first | with_reducible exact jg DI.o _ _ | with_reducible exact jg DW.o _ _) | ((try refine aY rfl ?_);refine zq w6.heap.size 1 rfl 3 Zm (wlC x u) (wpC x.u u) (fun W hW=>C7.below (aT hW)) (by decide) (fun j hj=>by match j,hj with | 0,_=>rfl | 1,_=>rfl) ?_;simp only[Act.put,zu])));refine wpQuiet_nil ?_;intro w8 aj;have b8:=aT aj;have Z8:=zh (Z7.below b8);have B8:=zD B7 b8;clear aj b8;go_wp2_with fail;go_meet;exact⟨⟨_,rfl⟩,Z8,B8⟩
                     · obtain⟨p,rfl⟩:∃p,j=p+1:=⟨j - 1,by omega⟩;have xp:=aB.o p rfl;rw[show off+3*p=off+p*3 by omega]at xp;obtain⟨pv,bG⟩:=zg ((c.wls.getD p wl0).d);rw[bG]at xp;have j0:=Ye p;have j1:(p:Int) < (n4:Int):=(by have :=ai.o;omega);have j2:=zw  (p:Int) (by have :=Q4.o;have :=ai.o;omega);have d3:decide ((0:Int) < (p:Int)+1)=true:=zt (by omega);have cu:=fun d os=>cell_regrown xp d os;clear k0 aB bG xp;cases n3':decide (xd≤pv)
                       all_goals(
                        refine wp_region_quiet_below (by kernel_rfl) (by kernel_rfl) ?_;(repeat(first | go_big_quiet_step (first | with_reducible exact jg DI.o _ _ | with_reducible exact jg DW.o _ _) | ((try refine aY rfl ?_);refine zq w6.heap.size 1 rfl 3 Zm (wlC x u) (wpC x.u u) (fun W hW=>C7.below (aT hW)) (by decide) (fun j hj=>by match j,hj with | 0,_=>rfl | 1,_=>rfl) ?_;simp only[Act.put,zu])));refine wpQuiet_nil ?_;intro w8 aj;have b8:=aT aj;have Z8:=zh (Z7.below b8);have B8:=zD B7 b8;clear aj b8;go_wp2_with fail;go_meet
                        exact⟨⟨_,rfl⟩,Z8,B8⟩)
             case rest=>
                   rename World=>w8
                   obtain⟨⟨r,rfl⟩,Z8,B8⟩:=hcut;clear qc qz aB DI DW C7
                   cases r with
                   | true=>
                     go_wp2_with fail;go_ret;exact⟨220,rfl,B8.o,fun h=>absurd h (by decide)⟩
                   | false=>
                     go_wp2_with fail;go_roundg(n4 - (j+1));case measure=>have :=ai.o;omega
                     case rel=>
                      go_light;exact⟨j+1,by have :=ai.o;omega,by go_num,Z8,B8⟩
           · obtain⟨d0,d1⟩:=zk ae;have bZ:=zh (show c.pth.length=10 from L2.trans az.2.2.2);clear ae hj q0;go_wp2_with fail;go_ret;exact⟨0,rfl,hB.o,fun _=>⟨az.1,az.2.1,az.2.2.1,bZ.o⟩⟩
def nxT(t:Tr)(c:Cm):Tr:=wS okT (rn okT aU t c.chs) c.au c.pth
structure Nx(g:Gp)(c:Cm)(x:Gp):Prop where
 ok:uQ aV nxT g c (rn okT aU g.tr c.chs) x
 f:c.f=g.f
 xf:x.f=g.f
abbrev rG(cs:List Cm)(g:Gp)(c:Cm)(x:Gp):Prop:=Plc cs aV nxT dA g c (rn okT aU g.tr c.chs) x
abbrev g00(f:Int):Gp:=g0 dA f
theorem Nx.first {cs:List Cm}{f:Int}{c:Cm}{x:Gp}(h:Nx (g00 f) c x)(hc:c∈cs):rG cs (g00 f) c x:=by
 have e:c.f=f:=h.f;subst e;exact .first hc h.ok
theorem Nx.step{cs:List Cm}{b0 b x:Gp}{c0 c:Cm}(h:Nx b c x)(p:rG cs b0 c0 b)(hc:c∈cs):rG cs b c x:=.step p hc h.ok
structure Cd where
 i:Nat
 c:Cm
 id:Dg
 since:Int
 x:Gp
structure Pool(cs:List Cm)(ats:List Nat):Prop where
 lt:∀i∈ats,i < cs.length
 inj:∀i∈ats,∀j∈ats,aV (cs.getD i cm0)=aV (cs.getD j cm0)→i=j
structure wO(cs:List Cm)(ats:List Nat)(g:Gp)(d:Cd):Prop where
 at':d.i∈ats
 c:d.c=cs.getD d.i cm0
 nx:Nx g d.c d.x
theorem wO.mem{cs:List Cm}{ats:List Nat}{g:Gp}{d:Cd}(h:wO cs ats g d)(P:Pool cs ats):d.c∈cs:=by rw[h.c];exact aK (P.lt _ h.at')
def YG(cs:List Cm)(ats:List Nat)(g:Gp)(l:List Cd):Prop:=(∀d∈l,wO cs ats g d)∧(l.map (·.i)).Nodup
structure lN(cs:List Cm)(ats:List Nat)(f:Int)(L Q:List (Cd×Gp)):Prop where
 ok:∀e∈L++Q,wO cs ats e.2 e.1∧rG cs e.2 e.1.c e.1.x
 nd:((L++Q).map (·.1.i)).Nodup
 hd:∃e0 r,L++Q=e0::r∧e0.2=g00 f∧∀e∈r,∃e'∈L,e.2=e'.1.x
theorem lN.from'{cs:List Cm}{ats:List Nat}{f:Int}{L Q:List (Cd×Gp)}(h:lN cs ats f L Q):∀e∈L++Q,e.2=g00 f∨∃e'∈L,e.2=e'.1.x:=by
 obtain⟨e0,r,h1,h2,h3⟩:=h.hd;intro e he;rw[h1]at he;rcases List.mem_cons.1 he with rfl | he
 · exact .inl h2
 · exact .inr (h3 e he)
theorem lN.start{cs:List Cm}{ats:List Nat}{f:Int}{d:Cd}(P:Pool cs ats)(h:wO cs ats (g00 f) d):lN cs ats f [] [(d,g00 f)] where
 ok e he:=by
  have he:=Yp.1 he;subst he;exact⟨h,h.nx.first (h.mem P)⟩
 nd:=by simp
 hd:=⟨_,_,rfl,rfl,fun e he=>by cases he⟩
theorem lN.step{cs:List Cm}{ats:List Nat}{f:Int}{L Q:List (Cd×Gp)}{e:Cd×Gp}(P:Pool cs ats)(h:lN cs ats f L (e::Q)){l:List Cd}(hl:YG cs ats e.1.x l):
 lN cs ats f (L++[e]) (Q++l.map fun d=>(d,e.1.x)) where
 ok e' he:=by
  have h1:e'∈L++(e::Q)∨e'∈l.map fun d=>(d,e.1.x):=(by simp only[Yt,List.mem_cons,List.not_mem_nil,or_false]at he ⊢;grind);rcases h1 with h1 | h1
  · exact h.ok e' h1
  · obtain⟨d,hd,rfl⟩:=Yo.1 h1;have h2:=hl.1 d hd;exact⟨h2,h2.nx.step (h.ok e (by simp)).2 (h2.mem P)⟩
 nd:=by
  have h0:(L++[e])++(Q++l.map fun d=>(d,e.1.x))=(L++(e::Q))++l.map fun d=>(d,e.1.x):=(by simp);rw[h0,Yn,List.nodup_append];refine⟨h.nd,by rw[List.map_map];exact hl.2,?_⟩;intro k hk k' hk' af;subst af;obtain⟨e',he',hi⟩:=Yo.1 hk;obtain⟨ed,ag,ah⟩:=Yo.1 hk';obtain⟨d,hd,rfl⟩:=Yo.1 ag;have o1:=h.ok e' he';have o2:=hl.1 d hd;have o3:=h.ok e (by simp);have ai:e'.1.i=d.i:=(by rw[hi];exact ah.symm);have ae:e'.1.c=d.c:=(by rw[o1.1.c,o2.c,ai]);rcases h.from' e' he' with h2 | ⟨e2,h2,h3⟩
  · have a1:=o1.1.nx.ok.ep;have a2:=o2.nx.ok.ep;have a3:=o3.2.epos.2;rw[h2,ae,a2]at a1;have a4:(g00 f).e=0:=rfl;omega
  · have o4:=h.ok e2 (by simp[h2]);have a1:=o1.1.nx.ok.pa;have a2:=o2.nx.ok.pa;rw[h3,ae,a2,o3.1.nx.ok.xl,o4.1.nx.ok.xl,o3.1.c,o4.1.c]at a1;have a5:=P.inj _ o3.1.at' _ o4.1.at' a1;have nd:=h.nd;rw[Yn,List.nodup_append]at nd;exact nd.2.2 _ (Yo.2 ⟨e2,h2,rfl⟩) _ (Yo.2 ⟨e,by simp,rfl⟩) a5.symm
 hd:=by
  obtain⟨e0,r,h1,h2,h3⟩:=h.hd;refine⟨e0,r++l.map (fun d=>(d,e.1.x)),?_,h2,fun e' he=>?_⟩
  · have h0:(L++[e])++(Q++l.map fun d=>(d,e.1.x))=(L++(e::Q))++l.map fun d=>(d,e.1.x):=(by simp);rw[h0,h1];rfl
  · rcases Yt.1 he with h4 | h4
    · obtain⟨e2,h5,h6⟩:=h3 e' h4;exact⟨e2,by simp[h5],h6⟩
    · obtain⟨d,hd,rfl⟩:=Yo.1 h4;exact⟨e,by simp,rfl⟩
theorem Dh:∀{n:Nat} {l:List Nat},l.Nodup→(∀i∈l,i < n)→l.length≤n:=by
 intro n
 induction n with
 | zero=>
   intro l _ h
   cases l with
   | nil=>exact Ya _
   | cons a l=>exact absurd (h a (by simp)) (by omega)
 | succ n ih=>
   intro l hn h;by_cases hm:n∈l
   · have h1:=ih (l:=l.erase n) (hn.erase n) (fun i hi=>by
      have h2:=h i (List.mem_of_mem_erase hi);have h3:i≠n:=fun e=>by subst e;exact(List.Nodup.not_mem_erase hn) hi
      omega)
     rw[List.length_erase_of_mem hm]at h1;omega
   · have h1:=ih hn (fun i hi=>by
      have h2:=h i hi;have h3:i≠n:=fun e=>by subst e;exact hm hi
      omega)
     omega
theorem lN.few{cs:List Cm}{ats:List Nat}{f:Int}{L Q:List (Cd×Gp)}(P:Pool cs ats)(h:lN cs ats f L Q):L.length+Q.length≤cs.length:=by
 have h1:=Dh h.nd (n:=cs.length) (fun i hi=>by
  obtain⟨e,he,rfl⟩:=Yo.1 hi
  exact P.lt _ (h.ok e he).1.at')
 simpa using h1
structure Nv(cs:List Cm)(f:Int)(L:List (Cd×Gp)):Prop where
 ok:∀e∈L,e.1.i < cs.length∧e.1.c=cs.getD e.1.i cm0∧rG cs e.2 e.1.c e.1.x
 len:L.length≤cs.length
 hd:∀e r,L=e::r→e.2=g00 f
 tl:∀e r,L=e::r→∀e2∈r,∃e'∈L,e2.2=e'.1.x
theorem lN.done {cs:List Cm}{ats:List Nat}{f:Int}{L:List (Cd×Gp)}(P:Pool cs ats)(h:lN cs ats f L []):Nv cs f L:=by
 obtain⟨e0,r,h1,h2,h3⟩:=h.hd;rw[List.append_nil]at h1;refine⟨fun e he=>?_,by have :=h.few P;simpa using this,fun e r' he=>?_,fun e r' he=>?_⟩
 · have h4:=h.ok e (by simpa using he);exact⟨P.lt _ h4.1.at',h4.1.c,h4.2⟩
 · rw[h1]at he;injection he with e1 e2;rw[←e1];exact h2
 · rw[h1]at he;injection he with e1 e2;rw[←e2];exact h3
theorem Nv.nil(cs:List Cm)(f:Int):Nv cs f []:=⟨fun e he=>(by cases he),Nat.zero_le _,fun e r h=>(by cases h),fun e r h=>(by cases h)⟩
def later(cs:List Cm)(e:Int):Nat:=(cs.filter fun c=>decide (e < c.e)).length
theorem Qm(cs:List Cm)(e:Int):later cs e≤cs.length:=List.length_filter_le _ _
theorem Vk{cs:List Cm}{e:Int}{c:Cm}(hc:c∈cs)(h:c.e=e+1):later cs (e+1) < later cs e:=by
 induction cs with
 | nil=>cases hc
 | cons a cs ih=>
   have mono:later cs (e+1)≤later cs e:=by
    clear ih hc
    induction cs with
    | nil=>exact Ya _
    | cons b cs ih2=>
      unfold later at *
      by_cases h1:e+1 < b.e
      · have h2:e < b.e:=(by omega);simp[h1,h2];exact ih2
      · by_cases h2:e < b.e
        · simp[h1,h2];omega
        · simp[h1,h2];exact ih2
   rcases List.mem_cons.1 hc with rfl | hc
   · unfold later at *
     have h1:¬e+1 < c.e:=(by omega);have h2:e < c.e:=(by omega);simp[h1,h2];omega
   · have ih:=ih hc
     unfold later at *
     by_cases h1:e+1 < a.e
     · have h2:e < a.e:=(by omega);simp[h1,h2];exact ih
     · by_cases h2:e < a.e
       · simp[h1,h2];omega
       · simp[h1,h2];exact ih
theorem Nx.later{cs:List Cm}{g x:Gp}{c:Cm}(h:Nx g c x)(hc:c∈cs):later cs x.e < later cs g.e:=by
 rw[h.ok.xe,h.ok.ep];exact Vk hc h.ok.ep
def keyS(y:Int):Sc:=⟨1,y,dA,0⟩
def bY(d:Dg)(l:Int):Sc:=⟨2,0,d,l⟩
def bZ(d:Dg):Sc:=⟨3,0,d,0⟩
structure Dv where
 fr:List Sc
 tt:Sc
section
variable (cs:List Cm)(own:Int→Prop)(dev:Int)
abbrev KnC(s:Sec):Prop:=Kn cs aV own dev nxT dA s
inductive GoodS:Sc→Prop
 | key {y:Int} (h:KnC cs own dev (.key y)):GoodS (keyS y)
 | path {d:Dg} {l:Int} (h:KnC cs own dev (.path d l)):GoodS (bY d l)
 | epoch {d:Dg} (h:KnC cs own dev (.epoch d)):GoodS (bZ d)
def DvG(d:Dv):Prop:=(∀s∈d.fr,GoodS cs own dev s)→GoodS cs own dev d.tt
variable {cs own dev}
theorem GoodS.isKey{y:Int}(h:GoodS cs own dev (keyS y)):KnC cs own dev (.key y):=by
 generalize e:keyS y=s at h
 cases h with
 | key h=>have e2:=congrArg Sc.p e;simp only[keyS]at e2;subst e2;exact h
 | path h=>have e2:=congrArg Sc.k e;simp only[keyS,bY]at e2;omega
 | epoch h=>have e2:=congrArg Sc.k e;simp only[keyS,bZ]at e2;omega
theorem GoodS.Ie{d:Dg}{l:Int}(h:GoodS cs own dev (bY d l)):KnC cs own dev (.path d l):=by
 generalize e:bY d l=s at h
 cases h with
 | key h=>have e2:=congrArg Sc.k e;simp only[keyS,bY]at e2;omega
 | path h=>
   have e2:=congrArg Sc.d e;have e3:=congrArg Sc.l e;simp only[bY]at e2 e3;subst e2 e3;exact h
 | epoch h=>have e2:=congrArg Sc.k e;simp only[bY,bZ]at e2;omega
theorem GoodS.VI{d:Dg}(h:GoodS cs own dev (bZ d)):KnC cs own dev (.epoch d):=by
 generalize e:bZ d=s at h
 cases h with
 | key h=>have e2:=congrArg Sc.k e;simp only[keyS,bZ]at e2;omega
 | path h=>have e2:=congrArg Sc.k e;simp only[bY,bZ]at e2;omega
 | epoch h=>have e2:=congrArg Sc.d e;simp only[bZ]at e2;subst e2;exact h
section
variable {g x:Gp}{c:Cm}(p:rG cs g c x)
include p
theorem dv_box{b:Bx}{y:Int}(hb:b∈c.bxs)(hy:Top.look (rn okT aU g.tr c.chs) b.n=some y):DvG cs own dev ⟨[keyS y],bY x.last b.l⟩:=fun h=>.path (.box p hb hy (h _ (by simp)).isKey)
theorem Wy{k:Nat}{y:Int}(hy:c.pth[k]? =some y):DvG cs own dev ⟨[bY x.last (k:Int)],keyS y⟩:=fun h=>.key (.pkey p hy (h _ (by simp)).Ie)
theorem dv_up{k:Nat}(hk:k < 9):DvG cs own dev ⟨[bY x.last (k:Int)],bY x.last ((k:Int)+1)⟩:=fun h=>.path (.up p hk (h _ (by simp)).Ie)
theorem YK{l:List Sc}(hl:bY x.last 9∈l):DvG cs own dev ⟨l,bZ x.last⟩:=fun h=>.epoch (.ep p (h _ hl).Ie)
theorem Tj{n y:Int}(hn:n=0∨∃d,fM d∧n=anc d 0)(hy:Top.look (rn okT aU g.tr c.chs) n=some y):DvG cs own dev ⟨[keyS y],bZ x.last⟩:=fun h=>.epoch (.wel p hn hy (h _ (by simp)).isKey)
theorem VJ(h:c.au=dev):GoodS cs own dev (bY x.last 0):=.path (.auth p h)
end
theorem Tm{y:Int}(h:own y):GoodS cs own dev (keyS y):=.key (.own h)
theorem MF(A:Apart cs aV own dev){g g' x x':Gp}{c c':Cm}(p:rG cs g c x)(p':rG cs g' c' x')(h:x.last=x'.last):x.tr=x'.tr:=(p.uniq A p' h).2
theorem Jd(A:Apart cs aV own dev){g x:Gp}{c:Cm}(p:rG cs g c x)(h:GoodS cs own dev (bZ x.last)):dev∈x.mem.map (·.d):=outside A p h.VI
end
abbrev Us:=Int×(Int×Int)
structure ApK(cs:List Cm)(n:Nat)(P:List Us):Prop where
 one:∀a∈P,∀b∈P,a.1=b.1→a.2=b.2
 ids:∀i,i < n→∀k,k < i→cs.getD k cm0=cs.getD i cm0∨aV (cs.getD i cm0)≠aV (cs.getD k cm0)
 rep:∀i,i < n→(∃k,k < i∧cs.getD k cm0=cs.getD i cm0)∨((∀(k:Nat) y,(cs.getD i cm0).pth[k]? =some y→(y,((i:Int),(k:Int)))∈P)∧∀ch∈(cs.getD i cm0).chs,ch.k≠2→(ch.p,((-1:Int),ch.d))∈P)
theorem Bv{cs:List Cm}{c:Cm}(h:c∈cs):∃i,i < cs.length∧cs.getD i cm0=c:=by
 obtain⟨i,hi,e⟩:=List.mem_iff_getElem.1 h;exact⟨i,hi,by rw[Yd,Yh hi];exact e⟩
theorem ApK.rep'{cs:List Cm}{P:List Us}(h:ApK cs cs.length P):∀i,i < cs.length→∃k,cs.getD k cm0=cs.getD i cm0∧k < cs.length∧((∀(q:Nat) y,(cs.getD i cm0).pth[q]? =some y→(y,((k:Int),(q:Int)))∈P)∧∀ch∈(cs.getD i cm0).chs,ch.k≠2→(ch.p,((-1:Int),ch.d))∈P):=by
 intro i
 induction i using Nat.strongRecOn with
 | ind i ih=>
   intro hi;rcases h.rep i hi with⟨k,hk,e⟩ | h1
   · obtain⟨k2,e2,h3,h4⟩:=ih k hk (by omega);exact⟨k2,e2.trans e,h3,by rw[←e];exact h4⟩
   · exact⟨i,rfl,hi,h1⟩
theorem ApK.apart{cs:List Cm}{P:List Us}{own:Int→Prop}{dev:Int}(h:ApK cs cs.length P)(ho:∀y,own y→(y,((-1:Int),dev))∈P):Apart cs aV own dev:=by
 have leaf:∀y d,PH cs own dev y d→(y,((-1:Int),d))∈P:=by
  intro y d hl;rcases hl with⟨c,hc,ch,hch,h1,h2,h3⟩ | ⟨h1,h2⟩
  · obtain⟨i,hi,rfl⟩:=Bv hc;obtain⟨k,_,_,_,h4⟩:=h.rep' i hi;rw[←h2,←h3];exact h4 ch hch h1
  · subst h1;exact ho y h2
 have path:∀c∈cs,∃k:Nat,cs.getD k cm0=c∧∀(q:Nat) y,c.pth[q]? =some y→(y,((k:Int),(q:Int)))∈P:=by
  intro c hc;obtain⟨i,hi,rfl⟩:=Bv hc;obtain⟨k,h1,_,h3,_⟩:=h.rep' i hi;exact⟨k,h1,h3⟩
 refine⟨fun c hc c' hc' e=>?_,fun c hc c' hc' k k' y h1 h2=>?_,fun y d d' h1 h2=>?_,fun c hc k y d h1 h2=>?_⟩
 · obtain⟨i,hi,rfl⟩:=Bv hc;obtain⟨j,hj,rfl⟩:=Bv hc';rcases Nat.lt_trichotomy i j with hl | hl | hl
   · rcases h.ids j hj i hl with h1 | h1
     · exact h1
     · exact absurd e.symm h1
   · rw[hl]
   · rcases h.ids i hi j hl with h1 | h1
     · exact h1.symm
     · exact absurd e h1
 · obtain⟨q,e1,p1⟩:=path c hc;obtain⟨q',e2,p2⟩:=path c' hc';have e:=h.one _ (p1 k y h1) _ (p2 k' y h2) rfl;injection e with e3 e4;have e3:q=q':=(by omega);exact⟨by rw[←e1,←e2,e3],by omega⟩
 · have e:=h.one _ (leaf y d h1) _ (leaf y d' h2) rfl;injection e
 · obtain⟨q,e1,p1⟩:=path c hc;have e:=h.one _ (p1 k y h1) _ (leaf y d h2) rfl;injection e with e3 e4;omega
theorem sK(t0:Tr)(h0:Hd)(l:List Chg)(ca:Option Addr)(cc:Nat)(w:World)(hg:eY w h0 t0)(hw:TrW t0)(hs:aN 5 w (.slice ca l.length cc) l.length (fun i=>chC (l.getD i ch0)))(hn:l.length≤1000000):
 Calls Tryz.prog 81 #[trA h0,.slice ca l.length cc] w fun e w'=>RenO w w' (rn okT aU t0 l) e:=by
 have HW:=zh hw;have T0:=zh hg;have S0:=zh hs;have QN:=zh hn;obtain⟨n,aj⟩:=zg l.length;have LN:=zh aj;rw[aj]at S0 QN ⊢;obtain⟨R,hR⟩:=zg (rn okT aU t0 l);have HR:=zh hR;rw[hR];have SS:=S0;clear hg hw hs hn aj hR;go_in;have B0:=zh (Yb w.heap.size w);go_upto_region 1 with fail;obtain⟨w1,ay,b1,z1,X1⟩:=zQ w (.cells #[h0.v] 49) 49 1 (fun _=>h0.v) rfl;rw[ay];(try rw[z1]);have B1:=zD B0 b1;have T1:=zh (T0.below b1);clear b1 ay z1 B0 T0;have LY:=zh B1.size;have az:=zh X1.lt;obtain⟨w2,aA,b2,z2,Y2⟩:=zQ w1 (.cells #[.slice none 0 0] 49) 49 1 (fun _=>hd0.v) rfl;rw[aA];(try rw[z2]);have B2:=zD B1 b2;have T2:=zh (T1.below b2);have X2:=zh (X1.below b2);clear b2 aA z2 B1 T1 X1;have LX:=zh (Ya w.heap.size);have P2:Hid (eY w2 h0 (rn okT aU t0 (l.take 0))):=T2;clear T2;go_wp2_with fail
 go_loopg [9] n (fun gh s9 wx=>∃(k:Nat) (h:Hd),k+gh=n∧s9=.int .i64 (k:Int)∧Hid (ag wx w.heap.size 49 1 (fun _=>h.v))∧Hid (eY wx h (rn okT aU t0 (l.take k)))∧Hid (ag wx w1.heap.size 49 1 (fun _=>hd0.v))∧Hid (Below w.heap.size w wx));case atStart=>exact⟨0,h0,by omega,rfl,X2,P2,Y2,B2⟩
 case round=>
  clear X2 P2 Y2 B2;obtain⟨k,h,hk,rfl,hX,hT,hY,hB⟩:=hrel;obtain⟨w4,rfl⟩:=zG wr;have q0:=Ye k;by_cases ae:k < n
  · obtain⟨d0,d1,-⟩:=zl ae;obtain⟨b,off,rfl,ak,hb,hc⟩:=aN.aI (s:=5) (n:=n) (a:=ca) (k:=cc) (c:=fun i=>chC (l.getD i ch0)) (SS.below hB.o) ae;have ai:=zh ae;have au:=zh (fun j hj=>hc k ae j hj);have TK:Hid (rn okT aU t0 (l.take (k+1))=nI okT aU (rn okT aU t0 (l.take k)) (l.getD k ch0)):=zh (by rw[aH ch0 l (show k < l.length by rw[LN.o];exact ae),JH]);obtain⟨x,hx⟩:=zg (l.getD k ch0);rw[hx]at au TK;have TW:=zh (Lm HW.o (l.take k));obtain⟨t,ht⟩:=zg (rn okT aU t0 (l.take k));rw[ht]at hT TK TW;have aC:=zw  ((k:Int)+1) (by have :=QN.o;omega);clear hc ak hb hx ae ht;go_upto_region 3 with fail;go_wp2_with(with_reducible refine zS 12 ?_);refine zh (zE b (off+k*5) rfl YV off k (by rw[Ym]) (chC x) au.o ?_);have B4:=hB;have X4:=hX;have T4:=hT;have Y4:=hY;clear hB hX hT hY au d0 d1;have Zr:=zh (ag.new w4 75 5 (chC ch0))
    go_upto_region 4 with((with_reducible refine zN ?_);refine zV Zr rfl (chC x) rfl YV (fun _ _=>rfl) ?_;intro w5 C5 o5);have b5:Below w4.heap.size w4 w5:=zO o5;have B5:=zD B4 b5;have X5:=zh (X4.below b5);have T5:=zh (T4.below b5);have Y5:=zh (Y4.below b5);clear b5 o5 Zr B4 X4 T4 Y4;have x0:w5.cell? ⟨w4.heap.size,0,none⟩=some (.int .i64 x.k):=C5.cell (i:=0) (by decide);have x1:w5.cell? ⟨w4.heap.size,1,none⟩=some (.int .i64 x.d):=C5.cell (i:=1) (by decide);have x2:w5.cell? ⟨w4.heap.size,2,none⟩=some (.int .i64 x.p):=C5.cell (i:=2) (by decide);by_cases h2:x.k=2
    · have d2:(x.k==2)=true:=(by simpa using h2);have E1:Hid (nI okT aU t x=xJ okT t x.d):=zh (by unfold nI;rw[if_pos h2]);have KR:=zh (sG t h x.d w5 T5.o TW.o);obtain⟨xk,af⟩:=zg x.k;rw[af]at d2 x0;clear h2 af x2;go_wp2_with(with_reducible refine zS 17 ?_);refine zh (zL X5 rfl YP ?_);go_wp2_with fail;refine KR.mono ?_;rintro e w6 ⟨hd,y,rfl,ht,b6⟩;have H6:=zh ht;have X6:=zh (X5.below b6);have Y6:=zh (Y5.below b6);have B6:=zD B5 b6;clear ht b6 KR x0 x1 C5 X5 Y5 B5 T5 d2;rw[show trA hd=.agg (ah 1 (fun _=>hd.v))from rfl];go_wp2_with(with_reducible refine zn ?_);refine zh (zV X6 rfl _ rfl YP (fun j _=>rfl) ?_);intro w7 X7 O7;have H7:Hid (eY w7 hd (rn okT aU t0 (l.take (k+1)))):=zh (by rw[TK.o,E1.o];exact ax.aB H6.o X6.o (by decide) O7.o);have Y7:=zh (O7.row (Nat.ne_of_gt az.o) Y6.o);have B7:=zh (B6.trans (O7.below LX.o B6.size));clear O7 X6 Y6 B6 H6;go_wp2_with fail;go_roundg(n - (k+1))
      case measure=>have :=ai.o;omega
      case rel=>
       go_light;exact⟨k+1,hd,by have :=ai.o;omega,by go_num,X7,H7,Y7,B7⟩
    · have d2:(x.k==2)=false:=(by simpa using h2);have E1:Hid (nI okT aU t x=xq okT aU t x.d x.p):=zh (by unfold nI;rw[if_neg h2]);have KR:=zh (DJ t h x.d x.p w5 T5.o TW.o);obtain⟨xk,af⟩:=zg x.k;rw[af]at d2 x0;clear h2 af;go_wp2_with(with_reducible refine zS 24 ?_);refine zh (zL X5 rfl YP ?_);go_wp2_with fail;refine KR.mono ?_;rintro e w6 ⟨hd,y,rfl,ht,b6⟩;have H6:=zh ht;have X6:=zh (X5.below b6);have Y6:=zh (Y5.below b6);have B6:=zD B5 b6;clear ht b6 KR x0 x1 x2 C5 X5 Y5 B5 T5 d2;rw[show trA hd=.agg (ah 1 (fun _=>hd.v))from rfl];go_wp2_with(with_reducible refine zn ?_);refine zh (zV X6 rfl _ rfl YP (fun j _=>rfl) ?_);intro w7 X7 O7;have H7:Hid (eY w7 hd (rn okT aU t0 (l.take (k+1)))):=zh (by rw[TK.o,E1.o];exact ax.aB H6.o X6.o (by decide) O7.o);have Y7:=zh (O7.row (Nat.ne_of_gt az.o) Y6.o);have B7:=zh (B6.trans (O7.below LX.o B6.size));clear O7 X6 Y6 B6 H6;go_wp2_with fail
      go_roundg(n - (k+1));case measure=>have :=ai.o;omega
      case rel=>
       go_light;exact⟨k+1,hd,by have :=ai.o;omega,by go_num,X7,H7,Y7,B7⟩
  · obtain⟨d0,d1⟩:=zk ae;have H4:Hid (eY w4 h R):=zh (by rw[←HR.o];have h:=hT.o;rwa[Yq (by rw[LN.o];omega)]at h);have X4:=hX;have Y4:=hY;have B4:=hB;clear hX hY hT hB ae hk q0;go_wp2_with(with_reducible refine zS 33 ?_);refine zh (zL X4 rfl YP ?_);go_wp2_with(with_reducible refine zn ?_);refine zh (zV Y4 rfl _ rfl YP (fun j _=>rfl) ?_);intro w5 Y5 O5;have H5:=zh (ax.aB H4.o Y4.o (by decide) O5.o);have B5:=zh (B4.trans (O5.below LY.o B4.size));clear O5 X4 Y4 B4 H4;go_wp2_with fail;refine bodyPost_ret (v:=.agg (ah 1 (fun _=>h.v))) (by exact zB Y5 rfl rfl YP) rfl ?_;exact⟨h,rfl,H5.o,B5.o⟩
end Go.Proofs.YtfddbnmfllgifaaGreatDoor
