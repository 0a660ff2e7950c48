/- Val -/
import Derived.Test.YtifcdjmcoibblaaGreatDoorLq14
import Derived.Test.YtifcdjmcoibblaaGreatDoorLq13
import Derived.Test.YtifcdjmcoibblaaGreatDoorLq15
import Derived.WalkSpells
import Derived.WalkLawsBesides
import Derived.BigQuiet
import Derived.Test.YtifcdjmcoibblaaGreatDoorLq01
set_option linter.unusedVariables false
set_option linter.unusedSimpArgs false
set_option linter.unusedSectionVars false
set_option maxRecDepth 100000
set_option maxHeartbeats 80000000
namespace Go.Proofs.YtifcdjmcoibblaaGreatDoor
section
open Go.RowKit
def leS (a b:ByteArray):Bool:=Op.bytesLess a.toList b.toList || a.toList == b.toList
def okAt (l:List ByteArray) (i:Nat):Bool:=decide ((l.getD i ByteArray.empty).size=32) && (decide (i=0) || !leS (l.getD i ByteArray.empty) (l.getD (i - 1) ByteArray.empty))
def ascS (l:List ByteArray):Bool:=(List.range l.length).all (okAt l)
theorem ascS_of {l:List ByteArray} (h:∀j,j<l.length→okAt l j=true):ascS l=true:=by
 unfold ascS;rw [List.all_eq_true];intro x hx;exact h x (List.mem_range.1 hx)
theorem ascS_no {l:List ByteArray} {j:Nat} (hj:j<l.length) (h:okAt l j=false):ascS l=false:=by
 unfold ascS;rw [List.all_eq_false];exact ⟨j,List.mem_range.2 hj,by rw [h];simp⟩
theorem ascending_any (ao:Option Addr) (n cap:Nat) (l:List ByteArray) (w:World) (hl:l.length=n) (hn:n≤60) (hrow:RowK 1 encT w ao l) :
  Calls Tryz.prog 71 #[.slice ao n cap] w fun e w'=>e = .returned (.bool (ascS l))∧w=w':=by
 have HL:=Hd hl;have HR:=Hd hrow;clear hl hrow;have n4:(n:Int)≤4000:=by omega
 go_enter Tryz.func71,Tryz.ntmps71
 go_wp2
 go_loopw [3,4,7] (fun _ _ i wr=>wr=w∧∃k:Nat,k≤n∧i = .int .i64 (k:Int)∧∀j,j<k→okAt l j=true) (fun _ _ i _=>n - (intOf i).toNat)
 case atStart=>exact ⟨rfl,0,by omega,rfl,fun j hj=>by omega⟩
 case round=>
  obtain ⟨rfl,k,hk,rfl,hall⟩:=hrel;have HA:=Hd hall;clear hall;have k0:(0:Int)≤(k:Int):=by omega
  by_cases hlt:k<n
  ·have k1:(k:Int)<(n:Int):=by omega
   have hkl:k<l.length:=by rw [HL.out];exact hlt
   obtain ⟨b,off,rfl,_,hc⟩:=HR.out.str hkl;obtain ⟨s,hs⟩:∃s,l[k]=s:=⟨_,rfl⟩;have HS:=Hd (show l.getD k ByteArray.empty=s from by rw [List.getD_eq_getElem?_getD,List.getElem?_eq_getElem hkl,←hs];rfl);rw [hs] at hc;clear hs;by_cases hz:s.size=32
   ·by_cases hk0:k=0
    ·have OK:=Hd (show ∀j,j<k+1→okAt l j=true from fun j hj=>by
      rcases Nat.lt_or_ge j k with q | q
      ·exact HA.out j q
      have:j=k:=by omega
      subst this;unfold okAt;rw [HS.out,hz,hk0];simp)
     subst hk0;rw [Nat.add_zero] at hc;have hz2:((s.size:Int) == 32)=true:=by rw [hz];rfl
     clear hkl;go_wp2
     go_roundw
     case rel=>exact ⟨trivial,1,by omega,rfl,fun j hj=>OK.out j (by omega)⟩
     case measure=>simp [intOf];omega
    have hk1:(0:Int)<(k:Int):=by omega
    obtain ⟨b',off',e,_,hc2⟩:=HR.out.str (i:=k - 1) (by rw [HL.out];omega);cases e;obtain ⟨p,hp⟩:∃s,l[k - 1]'(by rw [HL.out];omega)=s:=⟨_,rfl⟩;have HP:=Hd (show l.getD (k - 1) ByteArray.empty=p from by rw [List.getD_eq_getElem?_getD,List.getElem?_eq_getElem (by omega),←hp];rfl);rw [hp] at hc2;have t1:((k:Int) - 1).toNat=k - 1:=by omega
    have q0:(0:Int)≤(k:Int) - 1:=by omega
    have q1:(k:Int) - 1<(n:Int):=by omega
    have g1:(1:Int)≤(k:Int):=by omega
    have HK0:=Hd hk0;have HZ:=Hd hz;have hz2:((s.size:Int) == 32)=true:=by rw [hz];rfl
    have d0:decide ((0:Int)<(k:Int))=true:=by simpa using hk1
    rcases hle:leS s p with _ | _
    ·have OK:=Hd (show ∀j,j<k+1→okAt l j=true from fun j hj=>by
      rcases Nat.lt_or_ge j k with q | q
      ·exact HA.out j q
      have:j=k:=by omega
      subst this;unfold okAt;rw [HS.out,HP.out,hz,hle];simp)
     have hle2:(Op.bytesLess s.toList p.toList || s.toList == p.toList)=false:=hle;clear hp hkl hk0 hle;go_wp2
     go_roundw
     case rel=>exact ⟨trivial,k+1,by omega,by go_num,OK.out⟩
     case measure=>simp [intOf];omega
    have NO:=Hd (show ascS l=false from ascS_no (j:=k) (by omega) (by unfold okAt;rw [HS.out,HP.out,hle];simp [hk0]));have hle2:(Op.bytesLess s.toList p.toList || s.toList == p.toList)=true:=hle;clear hp hkl hk0 hle;go_wp2
    go_ret;exact ⟨by rw [NO.out];rfl,rfl⟩
   have NO:=Hd (show ascS l=false from ascS_no (j:=k) hkl (by unfold okAt;rw [HS.out];simp [hz]));have hz2:((s.size:Int) == 32)=false:=by simp;omega
   have hz3:¬(s.size:Int)=32:=by omega
   clear hkl;go_wp2
   go_ret;exact ⟨by rw [NO.out];rfl,rfl⟩
  have k1:¬(k:Int)<(n:Int):=by omega
  have YES:=Hd (show ascS l=true from ascS_of (fun j hj=>HA.out j (by have:=HL.out;omega)));go_wp2
  go_ret;exact ⟨by rw [YES.out];rfl,rfl⟩
def valS (l:List ByteArray):ByteArray:=strB ((2 * l.length) :: l.flatMap bytesN)
def errS (b:Bool):Int:=if b then 0 else 250
theorem strB_bytes (s:ByteArray):strB (bytesN s)=s:=by
 unfold strB bytesN;rw [List.map_map];apply ByteArray.ext;apply Array.toList_inj.1;show List.map _ s.data.toList=_;conv=>rhs;rw [←List.map_id s.data.toList]
 exact List.map_congr_left fun x _=>by simp
theorem strB_append (a b:List Nat):strB (a ++ b)=strB a ++ strB b:=by
 unfold strB;apply ByteArray.ext;apply Array.toList_inj.1;simp [ByteArray.data_append]
theorem join_nil:∀(l:List (List UInt8)),Lib.join l []=l.flatten
 | []=>rfl
 | [x]=>by simp [Lib.join]
 | x :: y :: l=>by
  have:=join_nil (y :: l);simp [Lib.join] at this ⊢;exact this
theorem flat_bytes (l:List ByteArray):(⟨((l.map (·.data.toList)).flatten).toArray⟩:ByteArray)=strB (l.flatMap bytesN):=by
 induction l with
 | nil=>rfl
 | cons x r ih=>
  rw [List.flatMap_cons,strB_append,←ih,strB_bytes];apply ByteArray.ext;apply Array.toList_inj.1;simp [ByteArray.data_append]
theorem flat_size (l:List ByteArray) (h:∀s∈l,s.size≤100):((l.map (·.data.toList)).flatten).length≤100 * l.length:=by
 induction l with
 | nil=>simp
 | cons x r ih=>
  rw [List.map_cons,List.flatten_cons,List.length_append,List.length_cons];have h1:x.data.toList.length=x.size:=rfl;have h2:=h x (by simp);have:=ih (fun s hs=>h s (by simp [hs]));omega
theorem flat_len2:∀(l:List ByteArray),(l.flatMap bytesN).length=((l.map (·.data.toList)).flatten).length
 | []=>rfl
 | x :: r=>by rw [List.flatMap_cons,List.map_cons,List.flatten_cons,List.length_append,List.length_append,flat_len2 r,bytesN_len];rfl
theorem asc_size {l:List ByteArray} (h:ascS l=true):∀s∈l,s.size=32:=fun s hs=>by
 unfold ascS at h;obtain ⟨i,hi,rfl⟩:=List.getElem_of_mem hs;have:=List.all_eq_true.1 h i (List.mem_range.2 hi);unfold okAt at this;rw [List.getD_eq_getElem?_getD,List.getElem?_eq_getElem hi] at this;simp at this;exact this.1
theorem value_any (ao:Option Addr) (n cap:Nat) (l:List ByteArray) (w:World) (hl:l.length=n) (hn:n≤60) (hc:(ao=none→cap=0)∧n≤cap) (hrow:RowK 1 encT w ao l) :
  Calls Tryz.prog 57 #[.slice ao n cap] w fun e w'=>e = .returned (.tuple #[.string (if ascS l then valS l else ByteArray.empty),.int .i64 (errS (ascS l))])∧Below w.heap.size w w':=by
 have HASC:=Hd (ascending_any ao n cap l w hl hn hrow);rcases ha:ascS l with _ | _
 ·rw [ha] at HASC;clear ha hrow hl hn hc;go_enter Tryz.func57,Tryz.ntmps57
  go_wp2_with (first
   | (go_at_call 71;refine HASC.out.mono ?_;rintro e w' ⟨rfl,rfl⟩))
  go_ret2
  exact ⟨rfl,Below.refl _ _⟩
 rw [ha] at HASC;have hsz:=asc_size ha;have JO:=Hd (show ∀w2,Below w.heap.size w w2→Calls Tryz.prog 106 #[.slice ao n cap,.string ByteArray.empty] w2 fun e w'=>e = .returned (.string (strB (l.flatMap bytesN)))∧Below w2.heap.size w2 w' from fun w2 hb=>by
  rcases Nat.eq_zero_or_pos n with h0 | h0
  ·subst h0;have hl0:l = []:=List.eq_nil_of_length_eq_zero hl;subst hl0;refine (Tryz.strings_Join_none ao cap ByteArray.empty w2).mono ?_;rintro e w' ⟨rfl,rfl⟩;exact ⟨rfl,Below.refl _ _⟩
  obtain ⟨b,off,rfl,hlb,_⟩:=hrow.str (i:=0) (by omega);have h1:=Tryz.strings_Join b off cap l ByteArray.empty w2 (fun j x hj=>by
   obtain ⟨b',off',e,_,h2⟩:=(hrow.later hb) j x hj;cases e;have:=h2 0 _ rfl;simpa using this) (Nat.lt_of_lt_of_le hlb hb.size) (by omega) (by rw [hl];exact hc.2) (by
    show (Lib.join (l.map (·.data.toList)) []).length≤_;rw [join_nil];have:=flat_size l (fun s hs=>by rw [hsz s hs];omega);omega)
  rw [hl] at h1;refine h1.mono ?_;rintro e w' ⟨rfl,h2⟩;refine ⟨?_,h2⟩;show Ending.returned (Value.string ⟨(Lib.join (l.map (·.data.toList)) []).toArray⟩)=_;rw [join_nil,flat_bytes])
 have PI:=Hd (putint_any n w (by omega));have VS:=Hd (show valS l=chrB (2 * n) ++ strB (l.flatMap bytesN) from by
  unfold valS chrB;rw [hl,←strB_append];rfl)
 have HSZ:=Hd (show (chrB (2 * n)).size≤1∧(strB (l.flatMap bytesN)).size≤6000 from by
  refine ⟨by simp [chrB,strB_size],?_⟩;rw [strB_size];have h1:=flat_size l (fun s hs=>by rw [hsz s hs];omega);have h2:=flat_len2 l;omega)
 obtain ⟨sa,hsa⟩:∃s,chrB (2 * n)=s:=⟨_,rfl⟩;obtain ⟨sb,hsb⟩:∃s,strB (l.flatMap bytesN)=s:=⟨_,rfl⟩;rw [hsa,hsb] at VS HSZ;rw [hsa] at PI;rw [hsb] at JO;have hA:=HSZ.out.1;have hB:=HSZ.out.2;clear ha hrow hl hsz hc hsa hsb;go_enter Tryz.func57,Tryz.ntmps57
 go_wp2_with (first
  | (go_at_call 71;refine HASC.out.mono ?_;rintro e w' ⟨rfl,rfl⟩)
  | (go_at_call 105;refine PI.out.mono ?_;rintro e w2 ⟨rfl,hb2⟩;have B2:=Hd hb2;clear hb2)
  | (go_at_call 106;refine (JO.out _ B2.out).mono ?_;rintro e w3 ⟨rfl,hb3⟩;have B3:=Hd hb3;clear hb3))
 go_ret2
 exact ⟨by rw [VS.out];rfl,B2.out.trans (B3.out.mono B2.out.size)⟩
end
end Go.Proofs.YtifcdjmcoibblaaGreatDoor
