/- The statements of packets: known. Package packet, plain: what the reference reads of the bytes behind a length. -/
import Derived.Test.YtahbikfbjenfpaaGreatDoorPa39
import Derived.Test.YtahbikfbjenfpaaGreatDoorPa36
import Derived.Test.YtahbikfbjenfpaaGreatDoorPa13

namespace Go.Proofs.YtahbikfbjenfpaaGreatDoor
open Go.RowKit Go.Shelf

def pkA:Pk:=⟨3,false,false,1, [97], [104,105],10, [],false,0,false, [], [],0,false,false,false, [], [],false,0, [], [], []⟩
def pkB1:Pk:=⟨1,false,false,0, [], [],0, [120],true,10,false, [], [],0,false,false,false, [], [],false,0, [], [], []⟩
theorem pkA_is:pkOk pkA=true∧pkRaw pkA= [50,7,0,1,97,0,10,104,105]:=⟨by decide+kernel,by decide+kernel⟩
theorem pkB1_is:pkOk pkB1=true∧pkRaw pkB1= [16,13,0,4,77,81,84,84,4,2,0,10,0,1,120]:=⟨by decide+kernel,by decide+kernel⟩
theorem pkC_not (p:Pk):¬PkIs [192,1] p:=fun h=>by
 obtain⟨s,h1,_⟩:=pk_parse_no h;have h2:lnRd [1]=some (some (1,1)):=by decide+kernel
 rw[h2]at h1;injection h1 with h1
 injection h1 with h1
 injection h1 with h3 h4
 subst h4;simp at h3
theorem pkD_not (p:Pk):¬PkIs [96,2,0,1] p:=fun h=>by
 obtain⟨s,h1,_,_,_,h5,h6,_⟩:=pk_parse_no h;have e:p.k=6:=h5;have e2:pkF p=0:=h6;unfold pkF at e2;rw[if_neg (by omega),if_pos (by omega)]at e2
 cases e2
theorem pkE_is:pkText 12= [112,105,110,103,114,101,113]∧pkTextE 12=0:=⟨by decide+kernel,by decide+kernel⟩
theorem raw_known (w:World)(p:Pk)(sw sc sf:Value)(r:List UInt8)(hm:MaxL w)(hl:PkL w p sw sc sf)(hs:PkSm p)(hk1: -9223372036854775808≤p.k)(hk2:p.k≤9223372036854775807)(h:pkOk p=true∧pkRaw p=r):
  Calls Tryz.prog 11 #[pkV p sw sc sf] w fun e w' =>∃A c,e= .returned (.tuple #[.slice A r.length c,.int .i64 0])∧Owned w' w.heap.size (.slice A r.length c) r∧Keeps w w' []:=by
 refine(pkRaw_any p sw sc sf w hl hs hm hk1 hk2).mono ?_;intro e w' hp;unfold RawPost at hp;rw[if_pos h.1,h.2]at hp;obtain⟨v,rfl,ho,hk⟩:=hp;obtain⟨A,c,rfl,_,_⟩:=own_slice ho;exact⟨A,c,rfl,ho,hk⟩
theorem parse_not (w:World)(b:List UInt8)(v:Value)(hm:MaxL w)(hB:Bytes w w.heap.size v b)(hb:b.length≤50000)(h:∀p,¬PkIs b p):
  Calls Tryz.prog 14 #[v] w fun e w' =>e= .returned (.tuple #[.agg pkZC,.int .i64 260])∧Keeps w w' []:=by
 refine(pkParse_any w v b hm hb hB).mono ?_;rintro e w' ⟨hk,⟨p,_,_,_,h1,_⟩ | ⟨_,rfl⟩⟩
 ·exact absurd h1 (h p)
 ·exact⟨rfl,hk⟩
theorem bytes_lit (w:World)(b:List UInt8)(hb:b.length≤1000):Bytes (w.alloc (.cells (b.map byteV).toArray 5)) (w.alloc (.cells (b.map byteV).toArray 5)).heap.size (.slice (some ⟨w.heap.size,0,none⟩) b.length b.length) b:=
 ⟨_,_,rfl,Nat.le_refl _,(fun h=>by cases h),by simp[maxLen];omega,by omega,fun _=>⟨w.heap.size,0,rfl,by simp,fun i u hu=>by
  have:=(Row.new w 5 (b.map byteV).toArray).cell i;rw[Nat.zero_add,this,zga];exact hu⟩⟩
set_option maxRecDepth 100000 in
set_option maxHeartbeats 4000000 in
theorem known16_any (w:World)(hm:MaxL w):Calls Tryz.prog 10 #[] w (TruePost w true):=by
 have HM:=zh hm;clear hm
 go_enter Tryz.func10,Tryz.ntmps10
 go_wp2_with fail
 have h1:=raw_known w pkA (.slice none 0 0) (.slice none 0 0) (.slice none 0 0) _ HM.out (PkL.empty rfl rfl rfl) ⟨by decide,by decide,by decide,by decide,by decide,by decide,by decide,by decide,by decide,by decide⟩ (by decide) (by decide) pkA_is;refine h1.mono ?_;clear h1;rintro e w1 ⟨A1,c1,rfl,ho1,hk1⟩;have H1:=zh (And.intro ho1 hk1);clear ho1 hk1
 go_wp2_with fail
 have h1:=raw_known w1 pkB1 (.slice none 0 0) (.slice none 0 0) (.slice none 0 0) _ (HM.out.keeps H1.out.2) (PkL.empty rfl rfl rfl) ⟨by decide,by decide,by decide,by decide,by decide,by decide,by decide,by decide,by decide,by decide⟩ (by decide) (by decide) pkB1_is;refine h1.mono ?_;clear h1;rintro e w2 ⟨A2,c2,rfl,ho2,hk2⟩;have H2:=zh (And.intro ho2 (And.intro (H1.out.2.then_ hk2) (own_keep H1.out.1 hk2 (by simp))));clear ho2 hk2 H1
 go_wp2_with fail
 have hb:=bytes_lit w2 [192,1] (by decide);have h1:=parse_not _ [192,1] _ (HM.out.keeps (H2.out.2.1.then_alloc _)) hb (by decide) pkC_not;refine h1.mono ?_;clear h1 hb;rintro e w3 ⟨rfl,hk3⟩;have hk3:=(Keeps.alloc w2 _).then_ hk3;have H3:=zh (And.intro (own_keep H2.out.1 hk3 (by simp)) (And.intro (H2.out.2.1.then_ hk3) (own_keep H2.out.2.2 hk3 (by simp))));clear hk3 H2
 go_wp2_with (refine wpList_store_new rfl (.tmp 5) (.tmp 24) rfl zP0 zP0 w3 rfl (by kernel_rfl) rfl (by simp[Value.oneCell']) rfl rfl ?_;intro w5 hw5)
 refine zh ?_;have hk3:Keeps w3 w5 []:=by rw[←hw5];exact Keeps.alloc _ _
 have H4:=zh (And.intro (own_keep H3.out.1 hk3 (by simp)) (And.intro (H3.out.2.1.then_ hk3) (own_keep H3.out.2.2 hk3 (by simp))));clear hk3 hw5 H3
 go_wp2_with fail
 have hb:=bytes_lit w5 [96,2,0,1] (by decide);have h1:=parse_not _ [96,2,0,1] _ (HM.out.keeps (H4.out.2.1.then_alloc _)) hb (by decide) pkD_not;refine h1.mono ?_;clear h1 hb;rintro e w6 ⟨rfl,hk3⟩;have hk3:=(Keeps.alloc w5 _).then_ hk3;have H5:=zh (And.intro (own_keep H4.out.1 hk3 (by simp)) (And.intro (H4.out.2.1.then_ hk3) (own_keep H4.out.2.2 hk3 (by simp))));clear hk3 H4
 go_wp2_with (refine wpList_store_new rfl (.tmp 7) (.tmp 29) rfl zP0 zP0 w6 rfl (by kernel_rfl) rfl (by simp[Value.oneCell']) rfl rfl ?_;intro w7 hw5)
 refine zh ?_;have hk3:Keeps w6 w7 []:=by rw[←hw5];exact Keeps.alloc _ _
 have H6:=zh (And.intro (own_keep H5.out.1 hk3 (by simp)) (And.intro (H5.out.2.1.then_ hk3) (own_keep H5.out.2.2 hk3 (by simp))));clear hk3 hw5 H5
 go_wp2_with fail
 obtain⟨S1,hS1⟩:∃S:ByteArray,S=⟨#[50,7,0,1,97,0,10,104,105]⟩:=⟨_,rfl⟩;obtain⟨S2,hS2⟩:∃S:ByteArray,S=⟨#[16,13,0,4,77,81,84,84,4,2,0,10,0,1,120]⟩:=⟨_,rfl⟩;obtain⟨S3,hS3⟩:∃S:ByteArray,S=⟨#[112,105,110,103,114,101,113]⟩:=⟨_,rfl⟩;have h1:=pkText_any 12 w7;rw[pkE_is.1,pkE_is.2,show(⟨([112,105,110,103,114,101,113]:List UInt8).toArray⟩:ByteArray)=S3 from hS3.symm]at h1;refine h1.mono ?_;clear h1;rintro e w8 ⟨rfl,hk3⟩;have H7:=zh (And.intro (own_keep H6.out.1 hk3 (by simp)) (And.intro (H6.out.2.1.then_ hk3) (own_keep H6.out.2.2 hk3 (by simp))));clear hk3 H6;have cv2:(convert 32 9 (.slice A2 15 c2)).run Tryz.prog w8= .ok (.string S2) w8:=by rw[hS2];exact conv_str w8 _ A2 c2 _ (Lies.of_own H7.out.1)
 have cv1:(convert 32 9 (.slice A1 9 c1)).run Tryz.prog w8= .ok (.string S1) w8:=by rw[hS1];exact conv_str w8 _ A1 c1 _ (Lies.of_own H7.out.2.2)
 have q1:(S1.toList== [50,7,0,1,97,0,10,104,105])=true:=by rw[hS1];decide+kernel
 have q2:(S2.toList== [16,13,0,4,77,81,84,84,4,2,0,10,0,1,120])=true:=by rw[hS2];decide+kernel
 have q3:(S3.toList== [112,105,110,103,114,101,113])=true:=by rw[hS3];decide+kernel
 clear hS1 hS2 hS3
 go_wp2_with fail
 go_ret;exact⟨rfl,H7.out.2.1⟩
end Go.Proofs.YtahbikfbjenfpaaGreatDoor

namespace Go.Proofs.YtahbikfbjenfpaaGreatDoor
open Go

/-- So many texts. -/
def rfTexts:Nat→List UInt8→Option (List (List UInt8))
 | 0,_=>some []
 | n+1,l=>(rdTx l).bind fun s=>(rfTexts n s.2).bind fun r=>some (s.1::r)
def rfMany (f:Nat):Nat:=1+pkB (pkBit f 4) 2+pkB (pkBit f 128) 1+pkB (pkBit f 64) 1
/-- A connect's texts. -/
def rfSet (f:Nat)(kp:Int)(L:List (List UInt8)):Pk:=
 let L1:=L.drop 1
 let L2:=if pkBit f 4 then L1.drop 2 else L1
 let L3:=if pkBit f 128 then L2.drop 1 else L2
 {pkCf f with k:=0,keep:=kp,c:=L.headD [],wt:=if pkBit f 4 then L1.headD []else [],wb:=if pkBit f 4 then(L1.drop 1).headD []else [],u:=if pkBit f 128 then L2.headD []else [],pw:=if pkBit f 64 then L3.headD []else []}
def rfCon:List UInt8→Option Pk
 | a0::a1::a2::a3::a4::a5::a6::f::k1::k2::r=>
  if [a0,a1,a2,a3,a4,a5,a6]= [0,4,77,81,84,84,4]then(rfTexts (rfMany f.toNat) r).bind fun L=>some (rfSet f.toNat (256*(k1.toNat:Int)+(k2.toNat:Int)) L)else none
 | _=>none
def rfList (k:Int)(l:List UInt8):Option Pk:=(rdN 2 l).bind fun i=>
 if k=8 then(rdAll rdWant i.2.length i.2).bind fun az=>some {pkZ with id:=(i.1:Int),wants:=az}
 else if k=9 then(rdAll rdCode i.2.length i.2).bind fun az=>some {pkZ with id:=(i.1:Int),codes:=az}
 else(rdAll rdTx i.2.length i.2).bind fun az=>some {pkZ with id:=(i.1:Int),fs:=az}
def rfPub (f:Nat)(l:List UInt8):Option Pk:=
 (rdTx l).bind fun t=>if 0 < f / 2 % 4 then(rdN 2 t.2).bind fun i=>some {pkZ with dup:=pkBit f 8,ret:=pkBit f 1,q:=(f / 2 % 4:Nat),t:=t.1,id:=(i.1:Int),b:=i.2}
  else some {pkZ with dup:=pkBit f 8,ret:=pkBit f 1,q:=(f / 2 % 4:Nat),t:=t.1,b:=t.2}
def rfAck:List UInt8→Pk
 | [a,b]=>{pkZ with pr:=decide (a.toNat=1),code:=(b.toNat:Int)}
 | _=>pkZ
def rfPk (k:Int)(f:Nat)(l:List UInt8):Option Pk:=
 if k=1 then rfCon l else if k=2 then some (rfAck l)else if k=3 then rfPub f l else if 4≤k∧k≤11 then rfList k l else some pkZ
end Go.Proofs.YtahbikfbjenfpaaGreatDoor
