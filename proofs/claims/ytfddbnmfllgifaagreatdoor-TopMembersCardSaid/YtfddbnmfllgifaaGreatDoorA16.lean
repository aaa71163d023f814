/- Part of TopMembers. -/
import Derived.Test.YtfddbnmfllgifaaGreatDoorA13
import Derived.Test.YtfddbnmfllgifaaGreatDoorA14
import Derived.RangeFuncNested
import Derived.RangeFuncBound
import Derived.Shelf.RegionOpen
import Derived.OwnWalkIn
import Derived.LoopNIn
import Derived.LoopIn
import Derived.Laws.EntriesVeiled
set_option linter.unusedVariables false
set_option linter.unusedSimpArgs false
set_option maxHeartbeats 64000000
set_option maxRecDepth 100000
namespace Go.Proofs.YtfddbnmfllgifaaGreatDoor
open Go.RowKit Go.Shelf
theorem jw{W W':World}(h:Below W.heap.size W W'):KeepsOthers W W':=
 ⟨h.size,fun k _ hk _=>(h.block k (Yi.1 hk).1).trans hk⟩
theorem NU{a b:Nat}(ha:a < 4611686018427377339)(hb:b < 4611686018427377339):a*b / 18446744073709551616 < 1152921504606844330:=by
 have h:a*b≤4611686018427377338*4611686018427377338:=Nat.mul_le_mul (by omega) (by omega);omega
theorem times_any(a b:Nat)(ha:a < 4611686018427377339)(hb:b < 4611686018427377339)(w:World):
 Calls Tryz.prog 202 #[.int .u64 a,.int .u64 b] w (zr (.int .u64 ((eQ a b:Nat):Int)) w):=by
 have h1:=Om a b (by omega) (by omega) w;have h2:=NU ha hb;have h3:=Nat.div_add_mod' (a*b) 18446744073709551616;have h4:=Nat.mod_lt (a*b) (show 0 < 18446744073709551616 by decide);obtain⟨hi,e1⟩:=zg (a*b / 18446744073709551616);obtain⟨lo,e2⟩:=zg (a*b % 18446744073709551616);rw[e1,e2]at h1 h3;rw[e1]at h2;rw[e2]at h4;have h5:=y8 hi lo 4611686018427377339 (by omega) (by omega) h4 w;rw[h3]at h5;have e3:a*b % 4611686018427377339=eQ a b:=rfl;obtain⟨q,e4⟩:=zg (a*b / 4611686018427377339);rw[e3,e4]at h5;have H1:=zh h1;have H5:=zh h5;clear h1 h5 h3 e1 e2 e3 e4;go_in;go_wp2_with fail;refine(H1.o).mono ?_;rintro e w' ⟨rfl,rfl⟩;go_wp2_with fail;refine(H5.o).mono ?_;rintro e w' ⟨rfl,hb'⟩;go_wp2_with fail;go_ret;exact⟨rfl,hb'⟩
attribute [local go_sem] Oper.semAt_some
theorem upto_length{α:Type}(f:Nat→α)(k:Nat):(upto f k).length=k:=by simp[upto]
def gK(n0 Bk:Nat)(W W':World):Prop:=Below n0 W W'∧W'.heap[Bk]? =W.heap[Bk]?
theorem gK.refl(n0 Bk:Nat)(W:World):gK n0 Bk W W:=⟨Yb _ _,rfl⟩
theorem gK.trans{n0 Bk:Nat}{A B C:World}(h:gK n0 Bk A B)(k:gK n0 Bk B C):gK n0 Bk A C:=⟨h.1.trans k.1,k.2.trans h.2⟩
theorem Nc{n0 Bk:Nat}{w:World}(hn:n0≤w.heap.size)(hB:Bk < w.heap.size)(W:World)(l:Nat)(o o':Obj)(hl:w.heap.size≤l)(h:W.heap[l]? =some o)(h1:o.isCells=false)(h2:o.isWalk=false):gK n0 Bk W (W.putObj l o'):=
 ⟨belowK_b hn W l o o' hl h h1 h2,World.putObj_heap_other (by omega)⟩
theorem Jj(n:Nat)(hn:1≤n)(l Bk n0 k:Nat)(hk:k < 18446744073709551616)(J Jx:List Bool→World→Prop)
 (hY:∀pre x W,J pre W→pre.length < Lib.bitLen k→YieldAt Fence.wide (n - 1) Tryz.prog l #[.bool x] W fun e W'=>
   (e=.returned (.bool true)∧J (pre++[x]) W'∧gK n0 Bk W W')∨(e=.returned (.bool false)∧Jx (pre++[x]) W'))
 (W:World) (hB:W.cell? ⟨Bk,0,none⟩=some (.int .u64 k)) (h0:J [] W):
 CallsIn Fence.wide n Tryz.prog 263 #[.func (.yield l) #[] #[],.pointer (some ⟨Bk,0,none⟩)] W fun e W'=>(∃v,e=.returned v)∧
  ((∃ys,ys=upto (ni k (Lib.bitLen k)) (Lib.bitLen k)∧J ys W')∨(∃pre,(∃j,j≤Lib.bitLen k∧pre=upto (ni k (Lib.bitLen k)) j)∧Jx pre W')):=by
 have hlen:=y9 k W (by omega) (by omega);rw[Int.toNat_natCast]at hlen;have hL:=bitLen_le64 (k:Int) (by omega) (by omega);rw[Int.toNat_natCast]at hL;have Hlen:=zh hlen;clear hlen
 generalize Lib.bitLen k=L at *
 refine callsIn_of_wp Tryz.func263 rfl trivial ?_ rfl;simp only[Tryz.ntmps263,List.size_toArray,Yr,Xc,Nat.reduceAdd,Nat.reduceSub,Array.replicate_succ,Array.replicate_zero,List.push_toArray,List.append_toArray,List.nil_append,List.cons_append]
 gi_wp2_with (refine⟨trivial,?_⟩;gi_at_call 91;refine(callsIn_wide.2 (Hlen.o)).mono ?_;rintro e w' ⟨rfl,rfl⟩)
 gi_loopw [3] (fun i wr=>∃m:Nat,m≤L∧i=.int .i64 ((m:Int) - 1)∧J (upto (ni k L) (L - m)) wr∧gK n0 Bk W wr) (fun i _=>(intOf i+1).toNat)
 case atStart=>exact⟨L,Ya _,rfl,by rw[Nat.sub_self];exact h0,gK.refl _ _ _⟩
 case round=>
  obtain⟨m,hm,rfl,hJs,ak⟩:=hrel;have aA:wr.cell? ⟨Bk,0,none⟩=some (.int .u64 k):=(World.cell?_of_block (w:=W) (a:=⟨Bk,0,none⟩) ak.2).trans hB;clear hB
  cases m with
  | zero=>
    gi_wp2
    go_end0;exact⟨⟨_,rfl⟩,.inl ⟨_,rfl,by simpa using hJs⟩⟩
  | succ m=>
    have em:((m+1:Nat):Int) - 1=(m:Int):=(by omega);rw[em];have az:min m 64=m:=(by omega);have ay:k / 2^m < 18446744073709551616:=Nat.lt_of_le_of_lt (Nat.div_le_self _ _) hk;obtain⟨q,hq⟩:=zg (k / 2^m);have rq:(k:Int) / 2^m=(q:Int):=(by rw[←hq];push_cast;rfl);rw[hq]at ay;have ah:L - 1 - (L - (m+1))=m:=by omega
    have hnext:upto (ni k L) (L - m)=upto (ni k L) (L - (m+1))++[decide (q % 2=1)]:=by
     rw[show L - m=(L - (m+1))+1 from by omega,upto_succ];congr 2;unfold ni;rw[ah,hq]
    have rand:bits .and .u64 (q:Int) 1=((q % 2:Nat):Int):=by
     have h:=bits_and_u64_nat q 1 ay (by omega);rw[Nat.and_one_is_mod]at h;exact h
    have af:=zh hnext;clear hnext hq ah em;by_cases ae:q % 2=1
    · have ai:bits .and .u64 (q:Int) 1=1:=(by rw[rand,ae];rfl);have hd:decide (q % 2=1)=true:=(by rw[ae];rfl);have ag:=af.o;rw[hd]at ag;have aj:=zh ag;obtain⟨fn,tmps,assign,body,hy,hR⟩:=hY _ true wr hJs (by rw[upto_length];omega);clear rand ae hd ag af
      gi_wp2
      refine hR.mono ?_;rintro e W3 (⟨rfl,au,ax⟩ | ⟨rfl,hJx3⟩)
      · gi_wp2
        go_roundw;(case rel=>exact⟨m,by omega,rfl,by rw[aj.o];exact au,ak.trans ax⟩);case measure=>simp[intOf]
      · gi_wp2
        refine bodyPost_ret (results_none rfl _ _ _) rfl ?_;exact⟨⟨_,rfl⟩,.inr ⟨_,⟨L - m,by omega,aj.symm⟩,hJx3⟩⟩
    · have ae:q % 2=0:=(by omega);have ai:bits .and .u64 (q:Int) 1=0:=(by rw[rand,ae];rfl);have hd:decide (q % 2=1)=false:=(by rw[ae];rfl);have ag:=af.o;rw[hd]at ag;have aj:=zh ag;obtain⟨fn,tmps,assign,body,hy,hR⟩:=hY _ false wr hJs (by rw[upto_length];omega);clear rand ae hd ag af
      gi_wp2
      refine hR.mono ?_;rintro e W3 (⟨rfl,au,ax⟩ | ⟨rfl,hJx3⟩)
      · gi_wp2
        go_roundw;(case rel=>exact⟨m,by omega,rfl,by rw[aj.o];exact au,ak.trans ax⟩);case measure=>simp[intOf]
      · gi_wp2
        refine bodyPost_ret (results_none rfl _ _ _) rfl ?_;exact⟨⟨_,rfl⟩,.inr ⟨_,⟨L - m,by omega,aj.symm⟩,hJx3⟩⟩
theorem Be(n:Nat)(hn:1≤n)(Bk n0 k:Nat)(hk:k < 18446744073709551616)(w:World)(ae:Bk < w.heap.size)(hc:w.cell? ⟨Bk,0,none⟩=some (.int .u64 k)):
 SeqStopsK Fence.wide n Tryz.prog 263 #[.pointer (some ⟨Bk,0,none⟩)] (fun x:Bool=> #[Value.bool x]) (gK n0 Bk) (fun ys=>ys=upto (ni k (Lib.bitLen k)) (Lib.bitLen k)) (fun _=>True) (Lib.bitLen k) w:=fun l J Jx W hW _ _ hY h0=>by
 have hc':=(hW.cell (p:=⟨Bk,0,none⟩) ae).trans hc;refine(Jj n hn l Bk n0 k hk J Jx hY W hc' h0).mono ?_;rintro e W' ⟨he,⟨ys,rfl,hj⟩ | ⟨pre,_,hj⟩⟩
 · exact⟨he,.inl ⟨_,rfl,hj⟩⟩
 · exact⟨he,.inr ⟨_,trivial,hj⟩⟩
theorem Ht(k:Nat)(w:World):
 Calls Tryz.prog 237 #[.int .u64 k] w fun e w'=>e=.returned (.func (.func 263) #[] #[.pointer (some ⟨w.heap.size,0,none⟩)])∧w'=w.alloc (.cells #[.int .u64 k] 188):=by
 go_in;go_wp2;go_ret;exact⟨rfl,rfl⟩
theorem NM(k:Nat)(hk:k < 18446744073709551616):k < 2^Lib.bitLen k:=(DivLaw.JD 64 k hk).1
theorem pR(a k:Nat)(ha:a < 4611686018427377339)(hk:k < 18446744073709551616)(w:World):
 Calls Tryz.prog 199 #[.int .u64 a,.int .u64 k] w (zr (.int .u64 ((kL a k:Nat):Int)) w):=by
 rw[←runP a k (Lib.bitLen k) (NM k hk)];refine(callsIn_wide (n:=3)).1 ?_;refine callsIn_of_wp_marks Tryz.func199 rfl trivial ?_ rfl;simp only[Tryz.ntmps199,List.size_toArray,Yr,Xc,Nat.reduceAdd,Nat.reduceSub,Array.replicate_succ,Array.replicate_zero,List.push_toArray,List.append_toArray,List.nil_append,List.cons_append]
 gi_wp2_with (refine⟨trivial,?_⟩;gi_at_call 237;refine(callsIn_wide.2 (Ht k _)).mono ?_;rintro e w' ⟨rfl,rfl⟩)
 have ba:=((Boxed.new w 188 (.int .u64 a)).alloc (.cells #[.int .u64 1] 188)).alloc (.cells #[.int .u64 k] 188);have bc:=(Boxed.new (w.alloc (.cells #[.int .u64 a] 188)) 188 (.int .u64 1)).alloc (.cells #[.int .u64 k] 188);have bk:=(Boxed.new ((w.alloc (.cells #[.int .u64 a] 188)).alloc (.cells #[.int .u64 1] 188)) 188 (.int .u64 k)).cell;have aP:Below w.heap.size w (((w.alloc (.cells #[.int .u64 a] 188)).alloc (.cells #[.int .u64 1] 188)).alloc (.cells #[.int .u64 k] 188)):=(((Yb _ w).alloc (Ya _) _).alloc (by simp) _).alloc (by simp;omega) _;simp only[Xi]at bc bk;obtain⟨W0,az⟩:=zg (((w.alloc (.cells #[.int .u64 a] 188)).alloc (.cells #[.int .u64 1] 188)).alloc (.cells #[.int .u64 k] 188));have aZ:W0.heap.size=w.heap.size+3:=(by rw[←az];simp);rw[az]at ba bc bk aP ⊢;clear az
 refine wpIn_rangeFunc_ownF rfl (by omega) (gf:=263) (lb:= #[.pointer (some ⟨w.heap.size+1+1,0,none⟩)]) rfl trivial (enters_of Tryz.func263 (by kernel_rfl) rfl)
  (Be 2 (by omega) (w.heap.size+1+1) w.heap.size k hk W0 (by omega) bk) gK.trans (Nc (by omega) (by omega)) (Yb _ _) (fun _=>rfl)
  (fun pre W=>(Boxed W w.heap.size 188 (.int .u64 a)∧Boxed W (w.heap.size+1) 188 (.int .u64 ((run eQ a pre:Nat):Int)))∧Below w.heap.size W0 W)
  (fun _ _ _=>False)
  (OwnFrom.and (OwnFrom.and (Own.from (boxed_own _ _ _) _) (Own.from (boxed_own _ _ _) _)) (ownFrom_below (by omega) (by omega)))
  (fun _ _ _ _ _ hs _ _=>hs)
  ⟨⟨ba,bc⟩,Yb _ _⟩
  (fun x=>{tmps:= #[.int .u64 a,.int .u64 k,.pointer (some ⟨w.heap.size,0,none⟩),undef,.int .u64 0,.pointer (some ⟨w.heap.size+1,0,none⟩),.bool x,.int .u64 k,.func (.func 263) #[] #[.pointer (some ⟨w.heap.size+1+1,0,none⟩)],.bool x,undef,undef,undef,undef,undef,undef,undef,undef],defers:=[]}) ?assign ?body ?done ?stop
 case assign=>
  intro l x W K hK
  gi_wp2
  exact hK
 case body=>
  rintro l pre x W ⟨⟨aA,aj⟩,hB⟩ _;have aQ:=Wi a pre;have aU:=aA.cell;have aS:=aj.cell;have hsW:=hB.size;have aV:=BA (run eQ a pre) (run eQ a pre);have hstep:step eQ a (run eQ a pre) x=run eQ a (pre++[x]):=(Gg _ _ _ _).symm;have ag:=zh hstep;clear hstep
  gi_wp2_with fail
  refine⟨trivial,?_⟩;refine(CallsIn.inRound l (callsIn_wide.2 (times_any _ _ aQ aQ _))).mono ?_;rintro e W1 ⟨rfl,ak⟩;have aB:Boxed W1 w.heap.size 188 (.int .u64 a):=(ak.block _ aA.lt).trans aA;have ah:Boxed W1 (w.heap.size+1) 188 _:=(ak.block _ aj.lt).trans aj;have aC:=ah.cell;have aF:=ah.frozen;clear aU aS;have af:=aB.other (B':=w.heap.size+1) (by omega) (.int .u64 ((eQ (run eQ a pre) (run eQ a pre):Nat):Int));have ae:=ah.set (.int .u64 ((eQ (run eQ a pre) (run eQ a pre):Nat):Int));have aG:=af.cell;have aH:=ae.cell;have aI:=ae.frozen
  have ay:gK w.heap.size (w.heap.size+1+1) W (W1.setCell ⟨w.heap.size+1,0,none⟩ (.int .u64 ((eQ (run eQ a pre) (run eQ a pre):Nat):Int))):=
   ⟨(ak.mono (by omega)).setCell (p:=⟨w.heap.size+1,0,none⟩) (by simp) _,(Below.heap_setCell _ _ _ _ (by simp)).trans (ak.block _ (by omega))⟩
  have au:=(jw ak).trans (KeepsOthers.setCell W1 ⟨w.heap.size+1,0,none⟩ (.int .u64 ((eQ (run eQ a pre) (run eQ a pre):Nat):Int)))
  cases x with
  | false=>
    gi_wp2_with fail
    exact⟨au,ay,⟨⟨af,by rw[←ag.o];exact ae⟩,hB.trans ay.1⟩⟩
  | true=>
    gi_wp2_with fail
    refine⟨trivial,?_⟩;refine(CallsIn.inRound l (callsIn_wide.2 (times_any _ _ aV ha _))).mono ?_;rintro e W2 ⟨rfl,ax⟩;have aJ:Boxed W2 w.heap.size 188 (.int .u64 a):=(ax.block _ af.lt).trans af;have ai:Boxed W2 (w.heap.size+1) 188 _:=(ax.block _ ae.lt).trans ae;have aW:=ai.cell;have aX:=ai.frozen;clear aG aH aI aC aF;have aK:=aJ.other (B':=w.heap.size+1) (by omega) (.int .u64 ((eQ (eQ (run eQ a pre) (run eQ a pre)) a:Nat):Int));have aN:=ai.set (.int .u64 ((eQ (eQ (run eQ a pre) (run eQ a pre)) a:Nat):Int));have aY:W.heap.size≤(W1.setCell ⟨w.heap.size+1,0,none⟩ (.int .u64 ((eQ (run eQ a pre) (run eQ a pre):Nat):Int))).heap.size:=ay.1.size
    have aT:=ay.trans (⟨(ax.mono (by omega)).setCell (p:=⟨w.heap.size+1,0,none⟩) (by simp) _,(Below.heap_setCell _ _ _ _ (by simp)).trans (ax.block _ (by omega))⟩:gK w.heap.size (w.heap.size+1+1) _ (W2.setCell ⟨w.heap.size+1,0,none⟩ (.int .u64 ((eQ (eQ (run eQ a pre) (run eQ a pre)) a:Nat):Int))));have aO:=(au.trans (jw ax)).trans (KeepsOthers.setCell W2 ⟨w.heap.size+1,0,none⟩ (.int .u64 ((eQ (eQ (run eQ a pre) (run eQ a pre)) a:Nat):Int)))
    gi_wp2_with fail
    exact⟨aO,aT,⟨⟨aK,by rw[←ag.o];exact aN⟩,hB.trans aT.1⟩⟩
 case done =>
  rintro D ys W hD rfl ⟨⟨_,aj⟩,hB⟩ hK;have aS:=aj.cell
  gi_wp2
  refine⟨by simp,.inl ⟨_,_,rfl,run_takeDeferred hK,?_⟩⟩;exact⟨_,results_tmp rfl _ _ _,rfl,(aP.trans hB).trans (belowK_b (w:=w) (Ya _) W D _ _ (by omega) hK rfl rfl)⟩
 case stop=>
  rintro D c pre W _ _ h _;exact h.elim
end Go.Proofs.YtfddbnmfllgifaaGreatDoor
namespace Go.Proofs.YtfddbnmfllgifaaGreatDoor
open Go.RowKit Go.Shelf
def aU(a:Int):Bool:=decide (1≤a∧a < 4611686018427377339∧kL a.toNat 2305843009213688669=1)
theorem lu{a:Int}(h:aU a=true):∃n:Nat,a=(n:Int)∧1≤n∧n < 4611686018427377339∧kL n 2305843009213688669=1:=by
 unfold aU at h;obtain⟨h1,h2,h3⟩:=of_decide_eq_true h;exact⟨a.toNat,by omega,by omega,by omega,h3⟩
theorem Qk{n:Nat}(h1:1≤n)(h2:n < 4611686018427377339)(h3:kL n 2305843009213688669=1):aU (n:Int)=true:=by
 unfold aU;exact zt ⟨by omega,by omega,by rw[Int.toNat_natCast];exact h3⟩
theorem ou(n:Nat)(h1:1≤n)(h2:n < 4611686018427377339)(h3:kL n 2305843009213688669=1)(w:World):
 Calls Tryz.prog 150 #[.int .i64 n] w (zr (.int .i64 0) w):=by
 have hc:Calls Tryz.prog 199 #[.int .u64 n,.int .u64 2305843009213688669] w (zr (.int .u64 ((kL n 2305843009213688669:Nat):Int)) w):=pR n 2305843009213688669 h2 (by decide) w;rw[h3]at hc;have Hc:=zh hc;have g1:decide ((n:Int) < 1)=false:=zT (by omega);have g2:decide ((4611686018427377339:Int)≤(n:Int))=false:=zT (by omega);have g4:(n:Int)≤9223372036854775807:=(by omega);clear hc h3 h1 h2;go_in;go_wp2_with fail;refine(Hc.o).mono ?_;rintro e w' ⟨rfl,hb⟩;go_wp2_with fail;go_ret;exact⟨rfl,hb⟩
theorem qB(a:Int)(h:aU a=false)(w:World):
 Calls Tryz.prog 150 #[.int .i64 a] w (zr (.int .i64 40) w):=by
 by_cases h1:a < 1
 · have g1:decide (a < 1)=true:=(by simp;omega);clear h h1;go_in;go_wp2_with fail;go_ret;exact⟨rfl,Yb _ _⟩
 · by_cases h2:a < 4611686018427377339
   · obtain⟨n,rfl⟩:∃n:Nat,a=(n:Int):=⟨a.toNat,by omega⟩;have ae:n < 4611686018427377339:=by omega
     have h3:¬kL n 2305843009213688669=1:=fun h3=>by
      rw[Qk (by omega) ae h3]at h;cases h
     have hc:Calls Tryz.prog 199 #[.int .u64 n,.int .u64 2305843009213688669] w (zr (.int .u64 ((kL n 2305843009213688669:Nat):Int)) w):=pR n 2305843009213688669 ae (by decide) w;have Hc:=zh hc;have g1:decide ((n:Int) < 1)=false:=zT (by omega);have g2:decide ((4611686018427377339:Int)≤(n:Int))=false:=zT (by omega);have g4:(n:Int)≤9223372036854775807:=(by omega);have g3:(((kL n 2305843009213688669:Nat):Int)!=1)=true:=(by rw[bne_iff_ne];omega);obtain⟨p,hp⟩:=zg (kL n 2305843009213688669);rw[hp]at Hc g3;clear hc h h3 hp h1 h2 ae;go_in;go_wp2_with fail;refine(Hc.o).mono ?_;rintro e w' ⟨rfl,hb⟩;go_wp2_with fail;go_ret;exact⟨rfl,hb⟩
   · have g1:decide (a < 1)=false:=zT (by omega);have g2:decide ((4611686018427377339:Int)≤a)=true:=zt (by omega);clear h h1 h2;go_in;go_wp2_with fail;go_ret;exact⟨rfl,Yb _ _⟩
def chk(a:Int):Int:=if aU a then 0 else 40
theorem check_any(a:Int)(w:World):
 Calls Tryz.prog 150 #[.int .i64 a] w (zr (.int .i64 (chk a)) w):=by
 cases h:aU a with
 | true=>
   obtain⟨n,rfl,h1,h2,h3⟩:=lu h;unfold chk;rw[h];exact ou n h1 h2 h3 w
 | false=>unfold chk;rw[h];exact qB a h w
theorem chk_01(a:Int):chk a=0∨chk a=40:=by unfold chk;cases aU a<;>simp
theorem RQ(a b:Nat)(au:1≤a)(af:a < 4611686018427377339)(ag:kL a 2305843009213688669=1)(ax:1≤b)(ah:b < 4611686018427377339)(ai:kL b 2305843009213688669=1)(w:World):
 Calls Tryz.prog 156 #[.int .i64 a,.int .i64 b] w (zr (.tuple #[.int .i64 ((eQ a b:Nat):Int),.int .i64 0]) w):=by
 have i0:∀w,(Instr.index 317 (.agg #[.int .i64 (a:Int),.int .i64 (b:Int)]) (.int .i64 0)).run Tryz.prog w=.ok (.int .i64 (a:Int)) w:=fun _=>(by kernel_rfl);have i1:∀w,(Instr.index 317 (.agg #[.int .i64 (a:Int),.int .i64 (b:Int)]) (.int .i64 1)).run Tryz.prog w=.ok (.int .i64 (b:Int)) w:=fun _=>(by kernel_rfl);have hm:=BA a b;have g4:(a:Int)≤9223372036854775807:=(by omega);have g5:(b:Int)≤9223372036854775807:=(by omega);have g6:((eQ a b:Nat):Int)≤9223372036854775807:=(by omega);have Ha:=zh ag;have Hb:=zh ai;have aj:=zh af;have ak:=zh ah;clear ag ai af ah hm;go_in;go_wp2_with fail;refine wp_loop_rounds 3 ?_;rw[rounds_succ];go_wp2_with fail;refine(ou a au aj.o Ha.o _).mono ?_;rintro e w1 ⟨rfl,hb1'⟩;go_wp2_with fail;rw[rounds_succ];go_wp2_with fail;refine(ou b ax ak.o Hb.o _).mono ?_;rintro e w2 ⟨rfl,hb2'⟩;go_wp2_with fail;rw[rounds_succ];go_wp2_with fail;refine(times_any a b aj.o ak.o _).mono ?_
 rintro e w3 ⟨rfl,ae⟩;go_wp2_with fail;go_ret2;exact⟨rfl,hb1'.trans ((hb2'.mono hb1'.size).trans (ae.mono (Yc hb1'.size hb2'.size)))⟩
theorem QA(a b:Int)(ha:aU a=false)(w:World):
 Calls Tryz.prog 156 #[.int .i64 a,.int .i64 b] w (zr (.tuple #[.int .i64 0,.int .i64 40]) w):=by
 have i0:∀w,(Instr.index 317 (.agg #[.int .i64 a,.int .i64 b]) (.int .i64 0)).run Tryz.prog w=.ok (.int .i64 a) w:=fun _=>(by kernel_rfl);have Ha:=zh ha;clear ha;go_in;go_wp2_with fail;refine wp_loop_rounds 3 ?_;rw[rounds_succ];go_wp2_with fail;refine(qB a Ha.o _).mono ?_;rintro e w1 ⟨rfl,hb1'⟩;go_wp2_with fail;go_ret2;exact⟨rfl,hb1'⟩
theorem Si(a b:Int)(ha:aU a=true)(hb:aU b=false)(w:World):
 Calls Tryz.prog 156 #[.int .i64 a,.int .i64 b] w (zr (.tuple #[.int .i64 0,.int .i64 40]) w):=by
 have i0:∀w,(Instr.index 317 (.agg #[.int .i64 a,.int .i64 b]) (.int .i64 0)).run Tryz.prog w=.ok (.int .i64 a) w:=fun _=>(by kernel_rfl);have i1:∀w,(Instr.index 317 (.agg #[.int .i64 a,.int .i64 b]) (.int .i64 1)).run Tryz.prog w=.ok (.int .i64 b) w:=fun _=>by kernel_rfl
 have ca:∀w,Calls Tryz.prog 150 #[.int .i64 a] w (zr (.int .i64 0) w):=fun w=>by
  have :=check_any a w;unfold chk at this;rwa[ha]at this
 have Ca:=zh ca;have Hb:=zh hb;clear ha hb ca;go_in;go_wp2_with fail;refine wp_loop_rounds 3 ?_;rw[rounds_succ];go_wp2_with fail;refine(Ca.o _).mono ?_;rintro e w1 ⟨rfl,hb1'⟩;go_wp2_with fail;rw[rounds_succ];go_wp2_with fail;refine(qB b Hb.o _).mono ?_;rintro e w2 ⟨rfl,hb2'⟩;go_wp2_with fail;go_ret2;exact⟨rfl,hb1'.trans (hb2'.mono hb1'.size)⟩
theorem TB(a k:Nat)(ah:1≤a)(ae:a < 4611686018427377339)(af:kL a 2305843009213688669=1)(hk:k < 2305843009213688669)(w:World):
 Calls Tryz.prog 154 #[.int .i64 a,.int .i64 k] w (zr (.tuple #[.int .i64 ((kL a k:Nat):Int),.int .i64 0]) w):=by
 have hm:=XY a k;have g4:(a:Int)≤9223372036854775807:=(by omega);have g5:(k:Int)≤9223372036854775807:=(by omega);have g6:((kL a k:Nat):Int)≤9223372036854775807:=(by omega);have g1:decide ((k:Int) < 0)=false:=zT (by omega);have g2:decide ((2305843009213688669:Int)≤(k:Int))=false:=zT (by omega);have Ha:=zh af;have ag:=zh ae;have Hk:=zh hk;clear af ae hk hm;go_in;go_wp2_with fail;refine(ou a ah ag.o Ha.o _).mono ?_;rintro e w1 ⟨rfl,hb1'⟩;go_wp2_with fail;refine(pR a k ag.o (Nat.lt_trans Hk.o (by decide)) _).mono ?_;rintro e w2 ⟨rfl,hb2'⟩;go_wp2_with fail;go_ret2;exact⟨rfl,hb1'.trans (hb2'.mono hb1'.size)⟩
theorem VP(a k:Int)(ha:aU a=false)(w:World):
 Calls Tryz.prog 154 #[.int .i64 a,.int .i64 k] w (zr (.tuple #[.int .i64 0,.int .i64 40]) w):=by
 have Ha:=zh ha;clear ha;go_in;go_wp2_with fail;refine(qB a Ha.o _).mono ?_;rintro e w1 ⟨rfl,hb1'⟩;go_wp2_with fail;go_ret2;exact⟨rfl,hb1'⟩
def gq(k:Int):Bool:=decide (0≤k∧k < 2305843009213688669)
theorem y5{k:Int}(h:gq k=true):∃n:Nat,k=(n:Int)∧n < 2305843009213688669:=by
 unfold gq at h;obtain⟨h1,h2⟩:=of_decide_eq_true h;exact⟨k.toNat,by omega,by omega⟩
theorem EH{k:Int}(h:gq k=false):k < 0∨2305843009213688669≤k:=by
 unfold gq at h;have :=of_decide_eq_false h;omega
theorem xY(a k:Int)(ha:aU a=true)(hk:gq k=false)(w:World):
 Calls Tryz.prog 154 #[.int .i64 a,.int .i64 k] w (zr (.tuple #[.int .i64 0,.int .i64 1]) w):=by
 have ca:∀w,Calls Tryz.prog 150 #[.int .i64 a] w (zr (.int .i64 0) w):=fun w=>by
  have :=check_any a w;unfold chk at this;rwa[ha]at this
 have Ca:=zh ca;rcases EH hk with h | h
 · have g1:decide (k < 0)=true:=zt (by omega);clear ha hk ca h;go_in;go_wp2_with fail;refine(Ca.o _).mono ?_;rintro e w1 ⟨rfl,hb1'⟩;go_wp2_with fail;go_ret2;exact⟨rfl,hb1'⟩
 · have g1:decide (k < 0)=false:=zT (by omega);have g2:decide ((2305843009213688669:Int)≤k)=true:=zt (by omega);clear ha hk ca h;go_in;go_wp2_with fail;refine(Ca.o _).mono ?_;rintro e w1 ⟨rfl,hb1'⟩;go_wp2_with fail;go_ret2;exact⟨rfl,hb1'⟩
def Dx(a b:Int):Int:=if aU a&&aU b then((eQ a.toNat b.toNat:Nat):Int)else 0
def QW(a b:Int):Int:=if aU a&&aU b then 0 else 40
def oL(a k:Int):Int:=if aU a&&gq k then((kL a.toNat k.toNat:Nat):Int)else 0
def Eu(a k:Int):Int:=if aU a then(if gq k then 0 else 1)else 40
theorem QY(a b:Int)(w:World):
 Calls Tryz.prog 156 #[.int .i64 a,.int .i64 b] w (zr (.tuple #[.int .i64 (Dx a b),.int .i64 (QW a b)]) w):=by
 unfold Dx QW
 cases ha:aU a with
 | false=>exact QA a b ha w
 | true=>
   cases hb:aU b with
   | false=>exact Si a b ha hb w
   | true=>
     obtain⟨n,rfl,h1,h2,h3⟩:=lu ha;obtain⟨m,rfl,k1,k2,k3⟩:=lu hb;exact RQ n m h1 h2 h3 k1 k2 k3 w
theorem Fz(a k:Int)(w:World):
 Calls Tryz.prog 154 #[.int .i64 a,.int .i64 k] w (zr (.tuple #[.int .i64 (oL a k),.int .i64 (Eu a k)]) w):=by
 unfold oL Eu
 cases ha:aU a with
 | false=>exact VP a k ha w
 | true=>
   cases hk:gq k with
   | false=>exact xY a k ha hk w
   | true=>
     obtain⟨n,rfl,h1,h2,h3⟩:=lu ha;obtain⟨m,rfl,k1⟩:=y5 hk;exact TB n m h1 h2 h3 k1 w
theorem Oj(k:Int)(w:World):
 Calls Tryz.prog 153 #[.int .i64 k] w (zr (.tuple #[.int .i64 (oL 4 k),.int .i64 (Eu 4 k)]) w):=by
 go_in;go_wp2_with fail;refine(Fz 4 k _).mono ?_;rintro e w1 ⟨rfl,hb1'⟩;go_wp2_with fail;go_ret2;exact⟨rfl,hb1'⟩
def tZ(zs:List Int):Bool:=zs.any fun z=> !gq z
theorem QK(a:Int)(w:World):
 Calls Tryz.prog 238 #[.int .i64 a] w fun e w'=>e=.returned (.bool (!gq a))∧w=w':=by
 cases h:gq a with
 | true=>
   obtain⟨n,rfl,hn⟩:=y5 h;have g1:decide ((n:Int) < 0)=false:=zT (by omega);have g2:decide ((2305843009213688669:Int)≤(n:Int))=false:=zT (by omega);clear h hn;go_in;go_wp2_with fail;go_ret;exact⟨rfl,rfl⟩
 | false=>
   by_cases h0:a < 0
   · have g1:decide (a < 0)=true:=zt (by omega);clear h h0;go_in;go_wp2_with fail;go_ret;exact⟨rfl,rfl⟩
   · have g1:decide (a < 0)=false:=zT (by omega)
     have g2:decide ((2305843009213688669:Int)≤a)=true:=by
      rw[decide_eq_true_iff];have :=EH h;omega
     clear h h0;go_in;go_wp2_with fail;go_ret;exact⟨rfl,rfl⟩
theorem Gq{zs:List Int}(h:∀j,j < zs.length→gq (zs[j]?.getD 0)=true):tZ zs=false:=by
 unfold tZ;rw[List.any_eq_false];intro x hx;obtain⟨j,hj,rfl⟩:=List.mem_iff_getElem.1 hx;have :=h j hj;rw[Yh hj,Option.getD_some]at this;rw[this];decide
theorem MQ{zs:List Int}{j:Nat}(hj:j < zs.length)(h:gq (zs[j]?.getD 0)=false):tZ zs=true:=by
 unfold tZ;rw[List.any_eq_true];refine⟨zs[j],List.getElem_mem hj,?_⟩;rw[Yh hj,Option.getD_some]at h;rw[h];rfl
def BJ(zs:List Int)(w:World)(e:Ending)(w':World):Prop:=(∃r:Int,e=.returned (.int .i64 r)∧decide (0≤r)=tZ zs)∧w=w'
theorem xX(b off cap:Nat)(zs:List Int)(hlen:(zs.length:Int)≤9223372036854775807)(w:World)(hc:∀j,j < zs.length→w.cell? ⟨b,off+j,none⟩=some (.int .i64 (zs[j]?.getD 0))):
 Calls Tryz.prog 217 #[.slice (some ⟨b,off,none⟩) zs.length cap,.func (.func 238) #[] #[]] w (BJ zs w):=by
 have HC:=zh hc;clear hc
 have hout:∀(j:Nat),j < zs.length→gq (zs[j]?.getD 0)=false→decide ((0:Int)≤(j:Int))=tZ zs:=fun j hj h=>by
  rw[MQ hj h,decide_eq_true_iff];omega
 have ah:(∀j,j < zs.length→gq (zs[j]?.getD 0)=true)→decide ((0:Int)≤ -1)=tZ zs:=fun h=>by
  rw[Gq h];rfl
 have ag:=zh hout;have ai:=zh ah;clear hout ah;go_in;go_wp2_with fail;go_loop [8] (fun s8=>∃k:Nat,k≤zs.length∧s8=.int .i64 k∧Hid (∀j,j < k→gq (zs[j]?.getD 0)=true)) (fun s8=>zs.length - (RowKit.intOf s8).toNat);case atStart=>exact⟨0,Nat.zero_le _,rfl,fun j hj=>by omega⟩
 case round=>
  obtain⟨k,hk,rfl,hI⟩:=hrel;by_cases af:k < zs.length
  · have hcell:=HC.o k af;have g0:decide ((k:Int) < (zs.length:Int))=true:=zt (by omega);obtain⟨z,hz⟩:=zg (zs[k]?.getD 0);rw[hz]at hcell;have co:=fun w=>QK z w
    cases hs:gq z with
    | true=>
      rw[hs]at co;have Co:=zh co
      have aj:Hid (∀j,j < k+1→gq (zs[j]?.getD 0)=true):=fun j hj=>by
       by_cases ak:j=k
       · rw[ak,hz];exact hs
       · exact hI.o j (by omega)
      clear hs hz co;go_wp2_with fail;refine(Co.o _).mono ?_;rintro e w' ⟨rfl,rfl⟩;go_wp2_with fail;go_round;(case rel=>exact⟨k+1,by omega,by go_num,aj⟩);case measure=>simp[RowKit.intOf];omega
    | false=>
      rw[hs]at co;have Co:=zh co;have hfin:=ag.o k af (by rw[hz];exact hs);have ae:=zh hfin;clear hs hz co hfin;go_wp2_with fail;refine(Co.o _).mono ?_;rintro e w' ⟨rfl,rfl⟩;go_wp2_with fail;go_ret;exact⟨⟨_,rfl,ae.o⟩,rfl⟩
  · have g0:decide (k < zs.length)=false:=zT af;have hfin:=ai.o (fun j hj=>hI.o j (by omega));have ae:=zh hfin;clear hfin af;go_wp2_with fail;go_ret;exact⟨⟨_,rfl,ae.o⟩,rfl⟩
theorem xQ(a:Option Addr)(c:Nat)(w:World):
 Calls Tryz.prog 217 #[.slice a 0 c,.func (.func 238) #[] #[]] w (BJ [] w):=by
 go_in;go_wp2_with fail;refine wp_loop_rounds 1 ?_;rw[rounds_succ];go_wp2_with fail;go_ret;exact⟨⟨_,rfl,rfl⟩,rfl⟩
def vV(w:World)(sv:Value)(zs:List Int):Prop:=
 ((∃(a:Option Addr) (c:Nat),sv=.slice a 0 c)∧zs=[])∨∃b off cap:Nat,sv=.slice (some ⟨b,off,none⟩) zs.length cap∧(zs.length:Int)≤9223372036854775807∧b < w.heap.size∧∀j,j < zs.length→w.cell? ⟨b,off+j,none⟩=some (.int .i64 (zs[j]?.getD 0))
theorem vV.below{w w':World}{sv:Value}{zs:List Int}(h:vV w sv zs)(hb:Below w.heap.size w w'):vV w' sv zs:=by
 rcases h with h | ⟨b,off,cap,h1,h2,h3,h4⟩
 · exact .inl h
 · exact .inr ⟨b,off,cap,h1,h2,Yg h3 hb.size,fun j hj=>(hb.cell (p:=⟨b,off+j,none⟩) h3).trans (h4 j hj)⟩
theorem En(sv:Value)(zs:List Int)(w:World)(h:vV w sv zs):
 Calls Tryz.prog 200 #[sv] w fun e w'=>e=.returned (.bool (tZ zs))∧w=w':=by
 have hi:Calls Tryz.prog 217 #[sv,.func (.func 238) #[] #[]] w (BJ zs w):=by
  rcases h with⟨⟨a,c,rfl⟩,rfl⟩ | ⟨b,off,cap,rfl,h2,h3,h4⟩
  · exact xQ a c w
  · exact xX b off cap zs h2 w h4
 have af:Calls Tryz.prog 188 #[sv,.func (.func 238) #[] #[]] w fun e w'=>e=.returned (.bool (tZ zs))∧w=w':=by
  have Hi:=zh hi;clear hi h;obtain⟨bo,ae⟩:=zg (tZ zs);rw[ae];have ag:=zh ae;clear ae;go_in;go_wp2_with fail;refine(Hi.o).mono ?_;rintro e w' ⟨⟨r,rfl,hr⟩,rfl⟩;rw[ag.o]at hr;go_wp2_with fail;go_ret;exact⟨rfl,rfl⟩
 have ah:=zh af;clear af hi h;go_in;go_wp2_with fail;refine(ah.o).mono ?_;rintro e w' ⟨rfl,rfl⟩;go_wp2_with fail;go_ret;exact⟨rfl,rfl⟩
attribute [local go_sem] Oper.semAt_some
end Go.Proofs.YtfddbnmfllgifaaGreatDoor
namespace Go.Proofs.YtfddbnmfllgifaaGreatDoor
open Go.RowKit Go.Shelf
attribute [local go_sem] Oper.semAt_some
end Go.Proofs.YtfddbnmfllgifaaGreatDoor
namespace Go.Proofs.YtfddbnmfllgifaaGreatDoor
open Go.RowKit Go.Shelf
theorem Qq(a:Int):tZ [a]= !gq a:=by simp[tZ]
theorem Jz(w:World)(a:Int):vV (w.alloc (.cells #[.int .i64 a] 3)) (.slice (some ⟨w.heap.size,0,none⟩) 1 1) [a]:=
 .inr ⟨w.heap.size,0,1,rfl,by simp,by simp,fun j hj=>by
  have :j=0:=by simp at hj;omega
  subst this;simp[World.cell?_alloc_new]⟩
theorem JG(w:World)(a:Int){x:Bool}(h:(!gq a)=x):
 Calls Tryz.prog 200 #[.slice (some ⟨w.heap.size,0,none⟩) 1 1] (w.alloc (.cells #[.int .i64 a] 3)) fun e w'=>e=.returned (.bool x)∧w.alloc (.cells #[.int .i64 a] 3)=w':=by
 have :=En _ [a] _ (Jz w a);rwa[Qq,h]at this
theorem Lu(w:World)(o:Obj):Below w.heap.size w (w.alloc o):=(Yb _ w).alloc (Ya _) o
def rC(a:Int):Int:=if gq a then 0 else 1
theorem JA(a:Int)(w:World):
 Calls Tryz.prog 152 #[.int .i64 a] w (zr (.int .i64 (rC a)) w):=by
 have hb:=Lu w (.cells #[.int .i64 a] 3)
 cases h:gq a with
 | true=>
   have e1:rC a=0:=(by unfold rC;rw[h];rfl);have ho:=JG w a (x:=false) (by rw[h];rfl);rw[e1];have Ho:=zh ho;clear ho h e1;go_in;go_wp2_with fail;refine(Ho.o).mono ?_;rintro e w' ⟨rfl,rfl⟩;go_wp2_with fail;go_ret;exact⟨rfl,hb⟩
 | false=>
   have e1:rC a=1:=(by unfold rC;rw[h];rfl);have ho:=JG w a (x:=true) (by rw[h];rfl);rw[e1];have Ho:=zh ho;clear ho h e1;go_in;go_wp2_with fail;refine(Ho.o).mono ?_;rintro e w' ⟨rfl,rfl⟩;go_wp2_with fail;go_ret;exact⟨rfl,hb⟩
end Go.Proofs.YtfddbnmfllgifaaGreatDoor
