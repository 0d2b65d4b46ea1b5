/- Law 14, plain: many entries. Law 14: MatchMany. -/
import Derived.Test.YtoadlafdeoklbaaDoorPa32
import Derived.Test.YtoadlafdeoklbaaDoorPa34
import Derived.Test.YtoadlafdeoklbaaDoorPa12
import Derived.Test.YtoadlafdeoklbaaDoorPa23

namespace Go.Proofs.YtoadlafdeoklbaaDoor
open Go

/-- The i-th entry. -/
def mkF (i:Nat):List UInt8:= [UInt8.ofNat (97+i % 16),47,UInt8.ofNat (97+i / 16 % 16)]
def mkC (i:Nat):List UInt8:= [99,UInt8.ofNat (97+i / 256)]
def mkS (i:Nat):Sb:=⟨mkF i,mkC i,0⟩
theorem mk_inj {i j:Nat}(hi:i < 8192)(hj:j < 8192)(h1:mkF i=mkF j)(h2:mkC i=mkC j):i=j:=by
 simp only[mkF,mkC,List.cons.injEq,and_true,true_and]at h1 h2;obtain⟨a,b⟩:=h1;have a' :=congrArg UInt8.toNat a;have b' :=congrArg UInt8.toNat b;have c' :=congrArg UInt8.toNat h2;simp only[UInt8.toNat_ofNat']at a' b' c';omega
theorem mk_fil:∀a b:Fin 16,tOks (tLev [UInt8.ofNat (97+a.val),47,UInt8.ofNat (97+b.val)])=true:=by decide
theorem mk_filter (i:Nat):tFilter (mkF i)=true:=by
 refine filter_asc ?_ (by simp[mkF]) (by simp[mkF]) (mk_fil ⟨i % 16,by omega⟩ ⟨i / 16 % 16,by omega⟩);intro a ha;simp only[mkF,List.mem_cons,List.not_mem_nil,or_false]at ha
 rcases ha with rfl | rfl | rfl
 ·simp only[UInt8.toNat_ofNat']
  omega
 ·decide
 ·simp only[UInt8.toNat_ofNat']
  omega
/-- The entries behind so many. -/
def ManyIs (j:Nat)(L:List Sb):Prop:=L.length=min j 4096∧∀x,x∈L↔∃i,i < min j 4096∧x=mkS i
theorem ManyIs.nil:ManyIs 0 []:=⟨rfl,fun x=>⟨(fun h=>by cases h),fun⟨i,h,_⟩=>by omega⟩⟩
theorem ManyIs.step {j:Nat}{L:List Sb}(h:ManyIs j L)(hL:MtOk L)(hj:j < 8192):
  ManyIs (j+1) (mtSetA L (mkS j)).1∧(mtSetA L (mkS j)).2=(decide (j < 4096),if j < 4096 then 0 else 3):=by
 have hno:mtHas L (mkF j) (mkC j)=false:=by
  rw[←Bool.not_eq_true,mtHas_iff];rintro⟨x,hx,e1,e2⟩;obtain⟨i,hi,rfl⟩:=(h.2 x).1 hx;have:=mk_inj (i:=i) (j:=j) (by omega) hj e1 e2;omega
 by_cases h4:j < 4096
 ·have hlen:L.length < 4096:=by rw[h.1];omega
  rw[setA_ok (s:=mkS j) (mk_filter j) rfl hlen];refine⟨⟨?_,fun x=> ?_⟩, ?_⟩
  ·show(mtSet L (mkS j)).length=_
   rw[hL.up.set_len,show mtHas L (mkS j).f (mkS j).c=false from hno,h.1];simp;omega
  ·show x∈mtSet L (mkS j)↔_
   rw[mem_mtSet,h.2 x]
   constructor
   ·rintro(rfl | ⟨⟨i,hi,rfl⟩,_⟩)
    ·exact⟨j,by omega,rfl⟩
    ·exact⟨i,by omega,rfl⟩
   ·rintro⟨i,hi,rfl⟩
    by_cases hij:i=j
    ·subst hij
     exact .inl rfl
    ·exact .inr ⟨⟨i,by omega,rfl⟩,fun⟨e1,e2⟩=>hij (mk_inj (by omega) hj e1 e2)⟩
  ·show(!mtHas L (mkF j) (mkC j),(0:Int))=_
   rw[hno,decide_eq_true h4,if_pos h4];rfl
 ·have e:mtSetA L (mkS j)=(L,false,3):=by
   unfold mtSetA;rw[if_neg (by rw[show tFilter (mkS j).f=true from mk_filter j];simp),if_neg (by rw[show mtSubOk (mkS j)=true from rfl];simp),if_pos ⟨hno,by rw[h.1];omega⟩]
  rw[e];refine⟨⟨by rw[h.1];omega,fun x=> ?_⟩,by rw[decide_eq_false h4,if_neg h4]⟩;rw[h.2 x,show min (j+1) 4096=min j 4096 from by omega]
theorem ManyIs.last {j:Nat}{L:List Sb}(h:ManyIs j L)(hL:MtOk L)(hj:1≤j):
  (mtSetA L ⟨[97,47,97], [99,97],2⟩).1.length=min j 4096∧(mtSetA L ⟨[97,47,97], [99,97],2⟩).2=(false,0):=by
 have hy:mtHas L [97,47,97] [99,97]=true:=by
  rw[mtHas_iff];exact⟨mkS 0,(h.2 _).2 ⟨0,by omega,rfl⟩,rfl,rfl⟩
 have e:mtSetA L ⟨[97,47,97], [99,97],2⟩=(mtSet L ⟨[97,47,97], [99,97],2⟩, !mtHas L [97,47,97] [99,97],0):=by
  unfold mtSetA;rw[if_neg (by rw[show tFilter [97,47,97]=true from mk_filter 0];simp),if_neg (by decide),if_neg (by rw[hy];simp)]
 rw[e,hy];refine⟨?_,rfl⟩;show(mtSet L ⟨[97,47,97], [99,97],2⟩).length=_;rw[hL.up.set_len,show mtHas L _ _=true from hy,h.1];simp
end Go.Proofs.YtoadlafdeoklbaaDoor

namespace Go.Proofs.YtoadlafdeoklbaaDoor
open Go.RowKit Go.Maps Go.Shelf

theorem add_i64 (a b:Nat)(h:a+b≤1000000):IntKind.i64.wrap ((a:Int)+(b:Int))=((a+b:Nat):Int):=by rw[IntWalk.i64_in _ ⟨by omega,by omega⟩];omega
section
variable {P:Program} {ops:Array Oper} {rest:List Oper} {o:Oper} {a:Act} {Q:Exit→Act→World→Prop} {w w' :World}
theorem wpList_to (v:Value)(w' :World)(hg:o.guard=none)(h:(execOp a.eval o).run P w= .ok (.value v) w')(hk:wpList P ops Q rest (a.put o.dst v) w'):wpList P ops Q (o::rest) a w:=
 wpList_plain hg fun K hK=>by unfold Oper.wp;rw[h];exact hK _ _ hk
end
theorem exec_cv {P:Program}{e:Operand→Value}{o:Oper}{W:World}{t u:TypeId}{x:Operand}{v s:Value}(ho:o.op= .convert t u x)(hx:e x=v)(h:(convert t u v).run P W= .ok s W):(execOp e o).run P W= .ok (.value s) W:=by
 unfold execOp;simp only[ho,hx,Sem.run_bind,h,Result.andThen_ok,Sem.run_pure]
theorem mkF_cells (j:Nat):(mkF j).map byteV= [.int .u8 ((97+j % 16:Nat):Int),.int .u8 47,.int .u8 ((97+j / 16 % 16:Nat):Int)]:=by
 simp only[mkF,List.map_cons,List.map_nil,byteV,UInt8.toNat_ofNat'];rw[Nat.mod_eq_of_lt (a:=97+j % 16) (by omega),Nat.mod_eq_of_lt (a:=97+j / 16 % 16) (by omega)];rfl
theorem mkC_cells (j:Nat)(h:j < 8192):(mkC j).map byteV= [.int .u8 99,.int .u8 ((97+j / 256:Nat):Int)]:=by
 simp only[mkC,List.map_cons,List.map_nil,byteV,UInt8.toNat_ofNat'];rw[Nat.mod_eq_of_lt (a:=97+j / 256) (by omega)];rfl
theorem wrap_u8 (k:Nat)(h:k < 256):IntKind.u8.wrap (k:Int)=(k:Int):=IntWalk.u8_in _ ⟨by omega,by omega⟩
set_option maxRecDepth 100000 in
set_option maxHeartbeats 4000000 in
theorem matchMany_any (w:World)(n:Int)(hm:MaxL w):Calls Tryd.prog 3 #[.int .i64 n] w (TruePost w true):=by
 have HKN:=zh (fun(w' :World) (hk:Keeps w w' [])=>(known14_any w' (hm.keeps hk)));have HM:=zh hm;clear hm
 by_cases h1:n < 4090
 ·go_enter Tryd.func3,Tryd.ntmps3
  go_wp2_with fail
  refine(HKN.out _ (Keeps.refl _ _)).mono ?_;rintro e w1 ⟨rfl,hk⟩
  go_wp2_with fail
  go_ret;exact⟨rfl,hk⟩
 by_cases h2:n > 4100
 ·go_enter Tryd.func3,Tryd.ntmps3
  go_wp2_with fail
  refine(HKN.out _ (Keeps.refl _ _)).mono ?_;rintro e w1 ⟨rfl,hk⟩
  go_wp2_with fail
  go_ret;exact⟨rfl,hk⟩
 go_enter Tryd.func3,Tryd.ntmps3
 go_wp2_with fail
 have HN:=zh (And.intro h1 h2);obtain⟨N,rfl⟩:∃N:Nat,n=N:=⟨n.toNat,by omega⟩;have hN:N≤4100∧4090≤N:=by omega
 have HNN:=zh hN;clear h1 h2 hN;refine(mtNew_in w w (Keeps.refl _ _)).mono ?_;rintro e w1 ⟨d,rfl,hb,_⟩;have HB1:=zh hb;clear hb
 go_wp2_with fail
 go_loopw [4] (fun i wr=>∃j:Nat,j≤N∧i= .int .i64 j∧Hid (∃L,ManyIs j L∧BkIn w wr d L)) (fun i _=>N - (intOf i).toNat)
 case atStart=>exact⟨0,by omega,rfl,zh ⟨[],ManyIs.nil,HB1.out⟩⟩
 case round=>
  obtain⟨j,hj,rfl,HJ⟩:=hrel;have HJN:=zh hj
  by_cases hjn:j < N
  ·have hb5:j < 4100:=by have:=HNN.out;omega
   have c3:0≤(j:Int):=by omega
   have c4:(j:Int)≤4100:=by omega
   go_upto_region 7 with fail
   refine wp_region_lit ?_;obtain⟨L,HL⟩:∃L,Hid (ManyIs j L∧BkIn w wr d L):=by
    obtain⟨L,hL⟩:=HJ.out;exact⟨L,zh hL⟩
   obtain⟨W2,hW2⟩:∃W2,wr.alloc (.cells #[.int .u8 ((97+j % 16:Nat):Int),.int .u8 47,.int .u8 ((97+j / 16 % 16:Nat):Int)] 5)=W2:=⟨_,rfl⟩;obtain⟨W3,hW3⟩:∃W3,W2.alloc (.cells #[.int .u8 99,.int .u8 ((97+j / 256:Nat):Int)] 5)=W3:=⟨_,rfl⟩;refine wpList_val (ptr0 d) rfl (by kernel_rfl) ?_;refine wpList_val (.int .i64 (j:Nat)) rfl (by kernel_rfl) ?_;refine wpList_val (.int .i64 ((j % 16:Nat):Int)) rfl (by kernel_rfl) ?_;refine wpList_val (.int .i64 ((97+j % 16:Nat):Int)) rfl ((show _=Result.ok (Next.value (.int .i64 (IntKind.i64.wrap (((97:Nat):Int)+((j % 16:Nat):Int))))) wr by kernel_rfl).trans (by rw[add_i64 _ _ (by omega)])) ?_;refine wpList_val (.int .u8 ((97+j % 16:Nat):Int)) rfl ((show _=Result.ok (Next.value (.int .u8 (IntKind.u8.wrap ((97+j % 16:Nat):Int)))) wr by kernel_rfl).trans (by rw[wrap_u8 _ (by omega)])) ?_;refine wpList_val (.int .i64 (j:Nat)) rfl (by kernel_rfl) ?_;refine wpList_val (.int .i64 ((j / 16:Nat):Int)) rfl ((show _=Result.ok (Next.value (.int .i64 (IntKind.i64.wrap ((j / 16:Nat):Int)))) wr by kernel_rfl).trans (by rw[IntWalk.i64_in _ ⟨by omega,by omega⟩])) ?_;refine wpList_val (.int .i64 ((j / 16 % 16:Nat):Int)) rfl (by kernel_rfl) ?_;refine wpList_val (.int .i64 ((97+j / 16 % 16:Nat):Int)) rfl ((show _=Result.ok (Next.value (.int .i64 (IntKind.i64.wrap (((97:Nat):Int)+((j / 16 % 16:Nat):Int))))) wr by kernel_rfl).trans (by rw[add_i64 _ _ (by omega)])) ?_;refine wpList_val (.int .u8 ((97+j / 16 % 16:Nat):Int)) rfl ((show _=Result.ok (Next.value (.int .u8 (IntKind.u8.wrap ((97+j / 16 % 16:Nat):Int)))) wr by kernel_rfl).trans (by rw[wrap_u8 _ (by omega)])) ?_;refine wpList_to (.slice (some ⟨wr.heap.size,0,none⟩) 3 3) W2 rfl (by rw[←hW2];kernel_rfl) ?_;have HR2:=zh (show Row W2 wr.heap.size 5 #[.int .u8 ((97+j % 16:Nat):Int),.int .u8 47,.int .u8 ((97+j / 16 % 16:Nat):Int)]by rw[←hW2];exact Row.new _ _ _);have HK2:=zh (show Keeps wr W2 []by rw[←hW2];exact Keeps.alloc _ _);refine wpList_val (.string ⟨(mkF j).toArray⟩) rfl (by rw[exec_cv (t:=28) (u:=9) (x:= .tmp 33) (v:= .slice (some ⟨wr.heap.size,0,none⟩) (mkF j).length 3) (s:= .string ⟨(mkF j).toArray⟩) rfl (by kernel_rfl) (conv_str _ _ _ _ (mkF j) (lies_of_row HR2.out (by rw[mkF_cells])))]) ?_;refine wpList_val (.int .i64 (j:Nat)) rfl (by kernel_rfl) ?_;refine wpList_val (.int .i64 ((j / 256:Nat):Int)) rfl ((show _=Result.ok (Next.value (.int .i64 (IntKind.i64.wrap ((j / 256:Nat):Int)))) W2 by kernel_rfl).trans (by rw[IntWalk.i64_in _ ⟨by omega,by omega⟩])) ?_;refine wpList_val (.int .i64 ((97+j / 256:Nat):Int)) rfl ((show _=Result.ok (Next.value (.int .i64 (IntKind.i64.wrap (((97:Nat):Int)+((j / 256:Nat):Int))))) W2 by kernel_rfl).trans (by rw[add_i64 _ _ (by omega)])) ?_;refine wpList_val (.int .u8 ((97+j / 256:Nat):Int)) rfl ((show _=Result.ok (Next.value (.int .u8 (IntKind.u8.wrap ((97+j / 256:Nat):Int)))) W2 by kernel_rfl).trans (by rw[wrap_u8 _ (by omega)])) ?_;refine wpList_to (.slice (some ⟨W2.heap.size,0,none⟩) 2 2) W3 rfl (by rw[←hW3];kernel_rfl) ?_;have HR3:=zh (show Row W3 W2.heap.size 5 #[.int .u8 99,.int .u8 ((97+j / 256:Nat):Int)]by rw[←hW3];exact Row.new _ _ _)
   have HK3:=zh (show Keeps wr W3 []by rw[←hW3];exact HK2.out.then_ (Keeps.alloc _ _));refine wpList_val (.string ⟨(mkC j).toArray⟩) rfl (by rw[exec_cv (t:=28) (u:=9) (x:= .tmp 39) (v:= .slice (some ⟨W2.heap.size,0,none⟩) (mkC j).length 2) (s:= .string ⟨(mkC j).toArray⟩) rfl (by kernel_rfl) (conv_str _ _ _ _ (mkC j) (lies_of_row HR3.out (by rw[mkC_cells _ (by omega)])))]) ?_;refine wpList_val (sbV (mkS j)) rfl (by kernel_rfl) ?_;have HST:=zh (HL.out.1.step HL.out.2.ok (by omega));obtain⟨L',hL'⟩:∃L',(mtSetA L (mkS j)).1=L' :=⟨_,rfl⟩;rw[hL']at HST;refine wpList_callg 6 #[ptr0 d,sbV (mkS j)] (by kernel_rfl) (by kernel_rfl) ?_;refine(BkIn.set (HL.out.2.keeps HK3.out) HM.out (mkS j) (by simp[mkS,mkF]) (by simp[mkS,mkC])).mono ?_;rintro e w5 ⟨rfl,hb,_⟩;rw[hL']at hb;have HB5:=zh hb;rw[HST.out.2];refine .inl ⟨_,rfl, ?_⟩;simp only[Act.put,zsa,zsc,zsz];clear hb hL' hW2 hW3
   by_cases h6:j < 4096
   ·have h7:(j:Int) < 4096:=by omega
    have hd:decide (j < 4096)=true:=decide_eq_true h6;rw[hd,if_pos h6];clear hd h6
    go_wp2_with fail
    exact⟨⟨j+1,by omega,by go_num,zh ⟨L',HST.out.1,HB5.out⟩⟩,by simp[intOf];omega⟩
   ·have h7:¬((j:Int) < 4096):=by omega
    have hd:decide (j < 4096)=false:=decide_eq_false h6;rw[hd,if_neg h6];clear hd h6
    go_wp2_with fail
    exact⟨⟨j+1,by omega,by go_num,zh ⟨L',HST.out.1,HB5.out⟩⟩,by simp[intOf];omega⟩
  ·obtain rfl:j=N:=by omega
   obtain⟨L,hJ,hb⟩:=HJ.out;have HLA:=zh (hJ.last hb.ok (by have:=HNN.out;omega));have HS:=zh (BkIn.set hb HM.out ⟨[97,47,97], [99,97],2⟩ (by simp) (by simp));clear hJ hb
   go_wp2_with fail
   refine HS.out.mono ?_;rintro e w5 ⟨rfl,hb,_⟩;have HB5:=zh hb;rw[HLA.out.2];clear hb HS
   go_wp2_with fail
   refine HB5.out.len.mono ?_;rintro e w6 ⟨rfl,rfl⟩;rw[HLA.out.1]
   go_wp2_with fail
   refine(HKN.out _ HB5.out.k).mono ?_;rintro e w7 ⟨rfl,hk⟩;have HK7:=zh (HB5.out.k.then_ hk);clear hk
   go_wp2_with fail
   go_ret;exact⟨rfl,HK7.out⟩
end Go.Proofs.YtoadlafdeoklbaaDoor
