/- Reference 14: Of, Leave. Reference 14: parts of lists of entries; Drop. Reference 14: Drop. -/
import Derived.Test.YtoadlafdeoklbaaGreatDoorPa33

namespace Go.Proofs.YtoadlafdeoklbaaGreatDoor
open Go.RowKit Go.Maps Go.Shelf

/-- Where a loop is that keeps some of a list. -/
structure KpAt (w wr:World)(v:Value)(l:List Sb):Prop where
 own:OwnN wr w.heap.size 25 3 sbC v l
 k:Keeps w wr []
theorem filter_take {L:List Sb}{p:Sb→Bool}{j:Nat}(hj:j < L.length):(L.take (j+1)).filter p=(L.take j).filter p++if p L[j]then [L[j]]else []:=by
 rw[List.take_succ_eq_append_getElem hj,List.filter_append]
 congr 1
 cases h:p L[j] <;> simp[h]
set_option maxRecDepth 100000 in
set_option maxHeartbeats 4000000 in
theorem rfLeave_any (w:World)(A:Option Addr)(cap:Nat)(L:List Sb)(c:List UInt8)(hl:ListAt w 25 3 sbC A L)(hle:L.length≤900000)(hcc:c.length≤9223372036854775807)(hok:mtCl c=true):
  Calls Tryz.prog 56 #[.slice A L.length cap,.string ⟨c.toArray⟩] w fun e w' =>∃v,e= .returned (.tuple #[v,.int .i64 ((mtOf L c).length:Nat),.int .i64 0])∧KpAt w w' v (mtLeave L c):=by
 have HCL:=zh (rfClient_any w c hcc);rw[hok]at HCL;have HLN:=zh (show(mtLeave L c).length+(mtOf L c).length=L.length from by
  have h:=List.length_eq_countP_add_countP (fun x:Sb=>x.c==c) (l:=L);unfold mtLeave mtOf;rw[←List.countP_eq_length_filter,←List.countP_eq_length_filter,h,Nat.add_comm]
  congr 1
  refine List.countP_congr fun x _=> ?_
  cases h:x.c==c <;> simp)
 clear hok hcc;have HL:=zh hl;have HLE:=zh hle;obtain⟨C,hC⟩:∃S:ByteArray,(⟨c.toArray⟩:ByteArray)=S:=⟨_,rfl⟩;have HC:=zh hC;rw[hC];clear hl hle hC;rw[HC.out]at HCL
 go_enter Tryz.func56,Tryz.ntmps56
 go_wp2_with fail
 refine HCL.out.mono ?_;rintro e w1 ⟨rfl,rfl⟩;clear HCL
 go_wp2_with fail
 go_loopw [7,8] (fun v i wr=>∃(j:Nat) (acc:List Sb),j≤L.length∧i= .int .i64 j∧Hid (acc=mtLeave (L.take j) c)∧Hid (KpAt w1 wr v acc)) (fun _ i _=>L.length - (intOf i).toNat)
 case atStart=>exact⟨0, [],by omega,rfl,zh rfl,zh ⟨OwnN.nil _ _ _ _ _,Keeps.refl _ _⟩⟩
 case round=>
  obtain⟨j,acc,hj,rfl,HAC,HR⟩:=hrel;have HAL:=zh (show acc.length≤L.length from by
   rw[HAC.out];exact Nat.le_trans (List.length_filter_le _ _) (by rw[List.length_take];omega))
  by_cases hjl:j < L.length
  ·skip
   obtain⟨b,o,cs,rfl,hr,hc⟩:=HL.out (by omega);have HROW:=zh (show∀i,i < 3→wr.cell? ⟨b,o+j*3+i,none⟩=(sbC L[j])[i]? from fun i hi=>((hr.keeps HR.out.k).cell _).trans (hc j hjl i hi));have HT:=zh (filter_take (p:=fun x=> !(x.c==c)) hjl);obtain⟨⟨xf,xc,xq⟩,hx⟩:∃x,L[j]=x:=⟨_,rfl⟩;rw[hx]at HROW HT;obtain⟨X,hX⟩:∃S:ByteArray,(⟨xf.toArray⟩:ByteArray)=S:=⟨_,rfl⟩;obtain⟨Y,hY⟩:∃S:ByteArray,(⟨xc.toArray⟩:ByteArray)=S:=⟨_,rfl⟩;have c0:=HROW.out 0 (by omega);have c1:=HROW.out 1 (by omega);have c2:=HROW.out 2 (by omega);simp only[sbC,zgz,zgs,Nat.add_zero,hX,hY]at c0 c1 c2;have HXY:=zh (And.intro hX hY);have HEQ:=zh (show(xc==c)=(Y.toList==C.toList)from by rw[←hY,←HC.out,Lib.toList_data,Lib.toList_data]);clear hx hr hc hX hY;have hle:=HLE.out
   cases hz:(Y.toList==C.toList)with
   | true=>
    rw[hz]at HEQ;have hz2:(Y.toList !=C.toList)=false:=by simpa using hz
    go_wp2_with fail
    refine⟨⟨j+1,acc,by omega,by go_num,zh ?_,HR⟩,by simp[intOf];omega⟩;rw[HAC.out];unfold mtLeave;rw[HT.out,if_neg (by rw[HEQ.out];simp),List.append_nil]
   | false=>
    rw[hz]at HEQ;have hz2:(Y.toList !=C.toList)=true:=by simpa using hz
    obtain⟨A1,n1,rfl⟩:=OwnN.slice HR.out.own;obtain⟨Wc,hWc⟩:∃Wc,wr.alloc (.cells #[.string X,.string Y,.int .i64 xq] 25)=Wc:=⟨_,rfl⟩;have kc:Keeps wr Wc []:=by rw[←hWc];exact Keeps.alloc _ _
    have HLa:=zh (show Lies Wc Wc.heap.size (some ⟨wr.heap.size,0,none⟩) (([⟨xf,xc,xq⟩]:List Sb).flatMap sbC)from lies_of_row (cs:= #[.string X,.string Y,.int .i64 xq]) (by rw[←hWc];exact Row.new _ _ _) (by rw[←HXY.out.1,←HXY.out.2];rfl));have HA:=zh (HR.out.own.keeps kc);have HKC:=zh (HR.out.k.then_ kc);have hbs:w1.heap.size≤Wc.heap.size:=HKC.out.size;clear kc
    go_upto_region 8 with fail
    go_wp2_with (at_builtin;refine wpList_append_N elemSub encSb rfl (.tmp 26) (.tmp 31) rfl w1.heap.size (.slice A1 acc.length n1) (some ⟨wr.heap.size,0,none⟩) 1 1 acc [⟨xf,xc,xq⟩] rfl rfl rfl HA.out HLa.out (by have:=HAL.out;have:=HLE.out;simp;omega) hbs ?_;intro A7 c7 w7 l7 hl7 hlen7 ho7 hk7 hb7;refine Hid.out ?_)
    refine zh ?_;have HL7:=zh hl7.out;have HO7:=zh ho7;have HK7:=zh (show Keeps w1 w7 []from HKC.out.trans hk7 (fun y hy hlt=>by have:=(HA.out.rows y hy).1;omega));clear ho7 hk7 hb7 hl7 hWc hbs c0 c1 c2
    go_wp2_with fail
    refine⟨⟨j+1,l7,by omega,by go_num,zh ?_,zh ⟨HO7.out,HK7.out⟩⟩,by simp[intOf];omega⟩;rw[HL7.out,HAC.out];unfold mtLeave;rw[HT.out,if_pos (by rw[HEQ.out];rfl)]
  ·obtain rfl:j=L.length:=by omega
   have HE:=zh (show acc=mtLeave L c from by
    have:=HAC.out
    rwa [List.take_length]at this)
   obtain⟨A1,n1,rfl⟩:=OwnN.slice HR.out.own;have hle:=HLE.out;have hs:IntKind.i64.wrap ((L.length:Int) - (acc.length:Int))=(((mtOf L c).length:Nat):Int):=by
    have:=HLN.out;rw[HE.out,IntWalk.i64_in _ ⟨by omega,by omega⟩];omega
   have HS:=zh hs;clear hs
   go_wp2_with fail
   go_ret3
   refine⟨.slice A1 acc.length n1, ?_, ?_⟩
   ·have:=HLN.out
    have h2:=HE.out;have:((L.length:Int) - (acc.length:Int))=(((mtOf L c).length:Nat):Int):=by rw[h2];omega
    have hb:(mtOf L c).length≤900000:=by have:=HLN.out;omega
    simp[this]
    first | go_num | (unfold wrap64;omega)
   ·rw[←HE.out]
    exact HR.out

theorem elemSbS:Tryz.prog.underlying 22=some (.slice (Tryz.prog.elem 22)):=by kernel_rfl
theorem sizeSub:∀W,(sizeOf (Tryz.prog.elem 22)).run Tryz.prog W= .ok 3 W:=fun W=>by kernel_rfl
section
variable {e:Operand→Value} {o:Oper} {W:World} {x lo hi:Operand} {a:Option Addr} {len cap l h:Nat} {kl kh:IntKind}
theorem sbSliceL (ho:o.op= .slice 22 x (some lo) none none)(hx:e x= .slice a len cap)(h1:e lo= .int kl (l:Nat))(hl:l≤len):
  (execOp e o).run Tryz.prog W= .ok (.value (.slice (if cap=l then a else a.map (·.add (l*3))) (len - l) (cap - l))) W:=by
 have hs:=run_slice_l (P:=Tryz.prog) W 22 a len cap elemSbS kl (l:Int) (by omega) (by omega);rw[←run_sliceAt_slice W _ _ _ _ _ elemSbS,sizeSub]at hs;unfold execOp;simp only[ho,hx,h1,Option.map_some,Option.map_none,Sem.run_bind,hs,Result.andThen_ok,Sem.run_pure,sliced,Int.toNat_natCast]
theorem sbSliceH (ho:o.op= .slice 22 x none (some hi) none)(hx:e x= .slice a len cap)(h1:e hi= .int kl (l:Nat))(hl:l≤cap):
  (execOp e o).run Tryz.prog W= .ok (.value (.slice a l cap)) W:=by
 have hs:=run_slice_h (P:=Tryz.prog) W 22 a len cap elemSbS kl (l:Int) (by omega) (by omega);rw[←run_sliceAt_slice W _ _ _ _ _ elemSbS,sizeSub]at hs;unfold execOp;simp only[ho,hx,h1,Option.map_some,Option.map_none,Sem.run_bind,hs,Result.andThen_ok,Sem.run_pure,sliced,Int.toNat_natCast]
 try simp
 try (intro _;cases a <;> simp[Addr.add])
end
theorem listAt_drop {α:Type}{f:α→List Value}{w:World}{e:TypeId}{k n cap:Nat}{A:Option Addr}{l:List α}(h:ListAt w e k f A l)(hc:l.length≤cap):ListAt w e k f (if cap=n then A else A.map (·.add (n*k))) (l.drop n):=fun hp=>by
 rw[List.length_drop]at hp;obtain⟨b,o,cs,rfl,hr,hcs⟩:=h (by omega);rw[if_neg (by omega)];refine⟨b,o+n*k,cs,by simp[Addr.add],hr,fun i hi j hj=> ?_⟩;rw[List.length_drop]at hi;have h1:=hcs (n+i) (by omega) j hj;rw[List.getElem_drop,←h1]
 congr 1
 rw[Nat.add_mul];omega
theorem find_parts {L:List Sb}{f c:List UInt8}{j:Nat}(hL:SbUp L)(h:FindIs L f c j)(hh:mtHas L f c=true):mtDrop L f c=L.take j++L.drop (j+1)∧j < L.length:=by
 obtain⟨h1,h2,h3⟩:=h;obtain⟨x,hx,e1,e2⟩:=mtHas_iff.1 hh;have hj:j < L.length:=by
  refine Nat.lt_of_le_of_ne h1 fun e=> ?_
  subst e;have:=h2 x (by rw[List.take_length];exact hx);rw[e1,e2,kLt_irrefl]at this
  cases this
 refine⟨?_,hj⟩;have hd:L.drop j=L[j]::L.drop (j+1):=List.drop_eq_getElem_cons hj;have hfs:=find_stop hL hj h2 (h3 _ (by rw[hd];exact List.mem_cons_self));rw[hh]at hfs;have hk:=hfs.2.symm;simp only[Bool.and_eq_true,beq_iff_eq]at hk;have hs:SbUp (L.drop j):=List.Pairwise.sublist (List.drop_sublist _ _) hL;rw[hd]at hs;have h4:=(List.pairwise_cons.1 hs).1;unfold mtDrop
 conv=>lhs;rw[←List.take_append_drop j L,hd]
 rw[List.filter_append,List.filter_cons,if_neg (by simp[sbIs,hk.1,hk.2])]
 congr 1
 ·rw[List.filter_eq_self]
  intro y hy;have:=h2 y hy;simp only[Bool.not_eq_true'];rw[←Bool.not_eq_true];intro e;rw[sbIs_iff]at e;rw[e.1,e.2,kLt_irrefl]at this
  cases this
 ·rw[List.filter_eq_self]
  intro y hy;have:=h4 y hy;unfold sbLt at this;simp only[Bool.not_eq_true'];rw[←Bool.not_eq_true];intro e;rw[sbIs_iff]at e;rw[e.1,e.2,hk.1,hk.2,kLt_irrefl]at this
  cases this

section
variable {P:Program} {Ws:List Wr} {C:World→World→Prop} {A:Nat→World→World→Prop} {w0:World} {ops:Array Oper} {a0:Act} {Q:List Ent→Prop} {o:Oper} {rest:List Oper} {env:List Ent}
theorem loosek_q (hL:LightK Ws C A)(k:Nat)(v:Value)(he:env.length=k)(hw:∀vals:Tmp→Value,Region.wanted o (yielded ops (fill vals env a0).tmps)=true)(h:∀(W:World) (vals:Tmp→Value),(execOp (fill vals env a0).eval o).run P W= .ok (.value v) W)
  (hk:wpLooseK P Ws C A w0 ops a0 Q rest (addEnt o.dst (some v) [] (fun _ _ _=>True) env)):wpLooseK P Ws C A w0 ops a0 Q (o::rest) env:=
 loosek_is k v he (fun W vals _ _=>⟨by rw[if_pos (hw vals),h];exact⟨hL.stp (Keeps.refl _ _),rfl⟩⟩) hk
end
theorem keepIfM_ok (w0:World):RelOk (fun W W' =>Keeps w0 W []→Keeps w0 W' []):=⟨fun h k=>k.then_ h,fun h k x=>k (h x)⟩
theorem keepsM_ok:RelOk (fun W W' =>Keeps W W' []):=⟨fun h=>h,fun h k=>h.then_ k⟩
/-- A list of entries as a value. -/
def LsAt (w:World)(v:Value)(l:List Sb):Prop:=∃A c,v= .slice A l.length c∧ListAt w 25 3 sbC A l∧l.length≤c
theorem LsAt.keeps {w w' :World}{v:Value}{l:List Sb}(h:LsAt w v l)(hk:Keeps w w' []):LsAt w' v l:=by
 obtain⟨A,c,e,h1,h2⟩:=h;exact⟨A,c,e,h1.keeps hk,h2⟩
theorem LsAt.own {w:World}{B:Nat}{v:Value}{l:List Sb}(h:OwnN w B 25 3 sbC v l):LsAt w v l:=by
 obtain⟨A,c,rfl⟩:=OwnN.slice h;refine⟨A,c,rfl,h.at_ encSb, ?_⟩;obtain⟨h1,⟨h2,h3⟩ | ⟨g,c',cur,h2,h3,h4,h5,h6⟩⟩:=h
 ·rw[h3]
  omega
 ·injection h2 with e1 e2 e3
  omega
def ansV (v:Value)(b:Bool)(e:Int):Ending:= .returned (.tuple #[v,.bool b,.int .i64 e])
/-- What the reference's Set and Drop answer. -/
def RfPost (w:World)(a:List Sb×Bool×Int)(e:Ending)(w' :World):Prop:=Keeps w w' []∧∃v,e=ansV v a.2.1 a.2.2∧LsAt w' v a.1
set_option maxRecDepth 100000 in
set_option maxHeartbeats 8000000 in
theorem rfDrop_any (w:World)(v:Value)(L:List Sb)(f c:List UInt8)(hl:LsAt w v L)(hL:SbUp L)(hle:L.length≤400000)(hf:f.length≤50000)(hc:c.length≤50000):
  Calls Tryz.prog 55 #[v,.string ⟨f.toArray⟩,.string ⟨c.toArray⟩] w (RfPost w (mtDropA L f c)):=by
 have HLS:=zh hl;obtain⟨A,cap,rfl,hla,hcap⟩:=hl;have HFI:=zh (fun(w:World)=>rFilter_any w f (by omega));have HCL:=zh (fun(w:World)=>rfClient_any w c (by omega));have HFD:=zh (fun(W:World) (hk:Keeps w W [])=>rfFind_any W A cap L f c (hla.keeps hk) hL (by omega));have HLA:=zh hla;have HB:=zh (And.intro hcap (And.intro hle hL));obtain⟨F,hF⟩:∃S:ByteArray,(⟨f.toArray⟩:ByteArray)=S:=⟨_,rfl⟩;obtain⟨C,hC⟩:∃S:ByteArray,(⟨c.toArray⟩:ByteArray)=S:=⟨_,rfl⟩;rw[hF]at HFI;rw[hC]at HCL;simp only[hF,hC]at HFD;rw[hF,hC];clear hF hC hla hcap hle hL hf hc
 cases h1:tFilter f with
 | false=>
  have HE:=zh (show mtDropA L f c=(L,false,230)by unfold mtDropA;rw[if_pos h1]);rw[h1]at HFI
  go_enter Tryz.func55,Tryz.ntmps55
  go_wp2_with fail
  refine(HFI.out _).mono ?_;rintro e w1 ⟨rfl,hk⟩;have HK:=zh hk;clear hk
  go_wp2_with fail
  go_ret3
  exact⟨HK.out,_,by rw[HE.out];rfl,by rw[HE.out];exact HLS.out.keeps HK.out⟩
 | true=>
  rw[h1]at HFI
  cases h2:mtCl c with
  | false=>
   have HE:=zh (show mtDropA L f c=(L,false,2)by unfold mtDropA;rw[if_neg (by rw[h1];simp),if_pos h2]);rw[h2]at HCL
   go_enter Tryz.func55,Tryz.ntmps55
   go_wp2_with fail
   refine(HFI.out _).mono ?_;rintro e w1 ⟨rfl,hk⟩;have HK:=zh hk;clear hk
   go_wp2_with fail
   refine(HCL.out _).mono ?_;rintro e w2 ⟨rfl,rfl⟩
   go_wp2_with fail
   go_ret3
   exact⟨HK.out,_,by rw[HE.out];rfl,by rw[HE.out];exact HLS.out.keeps HK.out⟩
  | true=>
   have HE:=zh (dropA_ok (L:=L) h1 h2);rw[h2]at HCL;clear h1 h2
   go_enter Tryz.func55,Tryz.ntmps55
   go_wp2_with fail
   refine(HFI.out _).mono ?_;rintro e w1 ⟨rfl,hk⟩;have HK:=zh hk;clear hk
   go_wp2_with fail
   refine(HCL.out _).mono ?_;rintro e w2 ⟨rfl,rfl⟩
   go_wp2_with fail
   refine(HFD.out _ HK.out).mono ?_;rintro e w3 ⟨hk,j,hj,rfl⟩;have HK3:=zh (HK.out.then_ hk);have HJ:=zh hj;clear hk hj HFI HCL HFD HK
   cases hz:mtHas L f c with
   | false=>
    have HZ:=zh hz;clear hz
    go_wp2_with fail
    go_ret3
    exact⟨HK3.out,_,by rw[HE.out,HZ.out];rfl,by rw[HE.out,mtDrop_no HZ.out];exact HLS.out.keeps HK3.out⟩
   | true=>
    have HZ:=zh hz;have HP:=zh (find_parts HB.out.2.2 HJ.out hz);have HSZ:=zh (show(L.take j).length=j∧(L.drop (j+1)).length=L.length - (j+1)from⟨by rw[List.length_take];have:=HP.out.2;omega,by rw[List.length_drop]⟩);clear hz;have LH:=LightK.one (Ws:= [⟨8, [0,1,2,3,4,5,6,7], []⟩]) (i:=8) (keepIfM_ok w3) keepsM_ok;obtain⟨A',hA'⟩:∃A',(if cap=j+1 then A else A.map (·.add ((j+1)*3)))=A' :=⟨_,rfl⟩;have HA' :=zh hA';have HL1:=zh (show∀W,Keeps w3 W []→ListAt W 25 3 sbC A (L.take j)from fun W hk=>(HLA.out.keeps (HK3.out.then_ hk)).take j);have HL2:=zh (show∀W,Keeps w3 W []→ListAt W 25 3 sbC A' (L.drop (j+1))from fun W hk=>by
     rw[←HA'.out];exact listAt_drop (HLA.out.keeps (HK3.out.then_ hk)) HB.out.1)
    have hw:IntKind.i64.wrap ((j:Int)+1)=((j+1:Nat):Int):=by
     have:=HP.out.2;have:=HB.out.2.1;rw[IntWalk.i64_in _ ⟨by omega,by omega⟩];omega
    have HW1:=zh hw;clear hA' hw
    go_upto_region 8 with fail
    refine wp_region_writersL [⟨8, [0,1,2,3,4,5,6,7], []⟩] (fun W W' =>Keeps w3 W []→Keeps w3 W' []) (oneA 8 (fun W W' =>Keeps W W' [])) _ 9 LH (by kernel_rfl) rfl (by kernel_rfl) ?_;simp only[zts,ztz,zds,zdz];refine loosek_q LH 0 (.slice A L.length cap) rfl (fun _=>by kernel_rfl) (fun W vals=>by kernel_rfl) ?_;refine loosek_q LH 1 (.int .i64 (j:Nat)) rfl (fun _=>by kernel_rfl) (fun W vals=>by kernel_rfl) ?_;refine loosek_q LH 2 (.slice A (L.take j).length cap) rfl (fun _=>by kernel_rfl) (fun W vals=>by rw[sbSliceH (x:= .tmp 29) (hi:= .tmp 30) (a:=A) (len:=L.length) (cap:=cap) (l:=j) (kl:= .i64) rfl (by kernel_rfl) (by kernel_rfl) (by have:=HP.out.2;have:=HB.out.1;omega),HSZ.out.1]) ?_;simp only[addEnt];refine loosek_has 3 (fun v W' =>∃A c,v= .slice A (L.take j).length c∧OwnN W' w3.heap.size 25 3 sbC (.slice A (L.take j).length c) (L.take j)) rfl (fun W vals hW hkn φ' hφ=> ?_) ?_
    ·clear hkn
     exact opOk_append_N elemSub encSb rfl (Operand.const (.slice none 0 0)) (.tmp 31) rfl w3.heap.size (.slice none 0 0) A (L.take j).length cap [] (L.take j) rfl (by kernel_rfl) (by kernel_rfl) (OwnN.nil _ _ _ _ _) ((HL1.out _ (hW.c (Keeps.refl _ _))).lies encSb) (by have:=HB.out.2.1;simp;omega) (hW.c (Keeps.refl _ _)).size (fun A' c' w' ho hk _=>⟨LH.stp hk,hφ.out _ _ ⟨A',c',rfl,ho⟩⟩)
    simp only[addEnt];refine loosek_q LH 4 (.slice A L.length cap) rfl (fun _=>by kernel_rfl) (fun W vals=>by kernel_rfl) ?_;refine loosek_q LH 5 (.int .i64 (j:Nat)) rfl (fun _=>by kernel_rfl) (fun W vals=>by kernel_rfl) ?_;refine loosek_q LH 6 (.int .i64 ((j+1:Nat):Int)) rfl (fun _=>by kernel_rfl) (fun W vals=>(show _=Result.ok (Next.value (.int .i64 (IntKind.i64.wrap ((j:Int)+1)))) W by kernel_rfl).trans (by rw[HW1.out])) ?_;refine loosek_q LH 7 (.slice A' (L.drop (j+1)).length (cap - (j+1))) rfl (fun _=>by kernel_rfl) (fun W vals=>by rw[sbSliceL (x:= .tmp 33) (lo:= .tmp 35) (a:=A) (len:=L.length) (cap:=cap) (l:=j+1) (kl:= .i64) rfl (by kernel_rfl) (by kernel_rfl) (by have:=HP.out.2;omega),HA'.out,HSZ.out.2]) ?_;simp only[addEnt];refine loosek_has 8 (fun v W' =>∃A c,v= .slice A (L.take j++L.drop (j+1)).length c∧OwnN W' w3.heap.size 25 3 sbC (.slice A (L.take j++L.drop (j+1)).length c) (L.take j++L.drop (j+1))) rfl (fun W vals hW hkn φ' hφ=> ?_) ?_
    ·simp only[knowsK]at hkn
     try simp only[and_true]at hkn
     obtain⟨W4,a0,a1,A1,c1,hv,how⟩:=hkn (by decide);have how:=how.keeps (BtwK.one a1 (.inr (.inr (.inl rfl))));exact opOk_append_N elemSub encSb rfl (.tmp 32) (.tmp 36) rfl w3.heap.size (.slice A1 (L.take j).length c1) A' (L.drop (j+1)).length (cap - (j+1)) (L.take j) (L.drop (j+1)) rfl ((show _=vals 32 by kernel_rfl).trans hv) (by kernel_rfl) how ((HL2.out _ (hW.c (Keeps.refl _ _))).lies encSb) (by have:=HB.out.2.1;rw[HSZ.out.1,HSZ.out.2];have:=HP.out.2;omega) (hW.c (Keeps.refl _ _)).size (fun A'' c'' w' ho hk _=>⟨.one (fun hh=>hh.trans hk (fun y hy hlt=>by have:=(how.rows y hy).1;omega)) (fun h=>absurd rfl h),hφ.out _ _ ⟨A'',c'',rfl,ho⟩⟩)
    simp only[addEnt];refine loosek_nil (fun W9 vals hW hkn=> ?_);simp only[knowsAllK]at hkn
    try simp only[and_true]at hkn
    simp only[fill,Act.put,zsa,zsc,zsz];obtain⟨⟨_,a0,a1,AL,cL,hv9,ho9⟩,hrest⟩:=hkn;have HO9:=zh (LsAt.own (ho9.keeps (PostK.one a1 (.inl rfl))));have HK9:=zh (HK3.out.then_ (hW (Keeps.refl _ _)));rw[hv9];clear a0 a1 hv9 hrest hW LH ho9
    go_wp2_with fail
    go_ret3
    exact⟨HK9.out,_,by rw[HE.out,HZ.out];rfl,by rw[HE.out,HP.out.1];exact HO9.out⟩
end Go.Proofs.YtoadlafdeoklbaaGreatDoor
