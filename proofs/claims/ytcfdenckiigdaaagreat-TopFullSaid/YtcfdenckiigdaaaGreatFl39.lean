/- Part 39 of the contracts. -/
import Derived.Test.YtcfdenckiigdaaaGreatFl38
set_option linter.unusedVariables false
set_option maxRecDepth 100000
set_option maxHeartbeats 4000000
namespace Go.Proofs.YtcfdenckiigdaaaGreat
open Tryz
section
open Go.RowKit
def ma (k:Int):ByteArray:=if k=0 then ⟨#[114,108]⟩ else if k=2 then ⟨#[107,118,114,108]⟩ else if k=3 then ⟨#[107,108]⟩ else if k=4 then ⟨#[107,114,108]⟩ else if k=6 then ⟨#[98,108]⟩ else if k=7 then ⟨#[]⟩ else ⟨#[108]⟩
theorem CP (k:Int) (w:World):Calls prog 84 #[.int .i64 k] w fun e w'=>e=.returned (.string (ma k))∧w=w':=by
 unfold ma
 by_cases h0:k=0
 ·
  subst h0;go_enter func84,ntmps84;go_wp2_with fail;go_ret;exact ⟨rfl,rfl⟩
 by_cases h2:k=2
 ·
  subst h2;go_enter func84,ntmps84;go_wp2_with fail;go_ret;exact ⟨rfl,rfl⟩
 by_cases h3:k=3
 ·
  subst h3;go_enter func84,ntmps84;go_wp2_with fail;go_ret;exact ⟨rfl,rfl⟩
 by_cases h4:k=4
 ·
  subst h4;go_enter func84,ntmps84;go_wp2_with fail;go_ret;exact ⟨rfl,rfl⟩
 by_cases h6:k=6
 ·
  subst h6;go_enter func84,ntmps84;go_wp2_with fail;go_ret;exact ⟨rfl,rfl⟩
 by_cases h7:k=7
 ·
  subst h7;go_enter func84,ntmps84;go_wp2_with fail;go_ret;exact ⟨rfl,rfl⟩
 rw [if_neg h0,if_neg h2,if_neg h3,if_neg h4,if_neg h6,if_neg h7]
 have e0:(k == 0)=false:=zQ h0
 have e2:(k == 2)=false:=zQ h2
 have e3:(k == 3)=false:=zQ h3
 have e4:(k == 4)=false:=zQ h4
 have e6:(k == 6)=false:=zQ h6
 have e7:(k == 7)=false:=zQ h7
 clear h0 h2 h3 h4 h6 h7
 go_enter func84,ntmps84
 go_wp2
 go_ret
 exact ⟨rfl,rfl⟩
def cJ (l u:Int) (xs:List Int):Bool:=xs.all (fun x=>decide (l≤x)&&decide (x≤u))&&decide (xs.length≤16)
theorem l6 (l u:Int) (a:Option Addr) (cap:Nat) (xs:List Int) (w:World) (h:aU w a xs) (hm:xs.length≤4611686018427387904):Calls prog 51 #[.int .i64 l,.int .i64 u,.slice a xs.length cap] w fun e w'=>e=.returned (.bool (cJ l u xs))∧w=w':=by
 have H:=zH h
 clear h
 go_enter func51,ntmps51
 go_wp2
 go_loopg [11] xs.length (fun n i wr => ∃ j:Nat,n=xs.length - j∧i=.int .i64 j∧j≤xs.length∧wr=w∧(xs.take j).all (fun x=>decide (l≤x)&&decide (x≤u))=true)
 case atStart=>exact ⟨0,rfl,rfl,Nat.zero_le _,rfl,rfl⟩
 case round =>
  obtain ⟨j,hgn,rfl,hj,rfl,ha⟩:=hrel
  have HGN:=zH hgn
  have HB:=zH (zA hgn ha)
  clear hgn ha
  by_cases hlt:j<xs.length
  ·
   have hlt':(j:Int)<(xs.length:Int):=by omega
   obtain ⟨b,o,rfl,hc⟩:=H.out j hlt
   have HT:=zH (show (xs.take (j+1)).all (fun x=>decide (l≤x)&&decide (x≤u))=(decide (l≤xs[j])&&decide (xs[j]≤u)) by
    rw [List.take_succ_eq_append_getElem hlt,List.all_append,HB.out.2];simp)
   have HV:=zH (show (decide (l≤xs[j])&&decide (xs[j]≤u))=false→cJ l u xs=false from fun hf=>by
    unfold cJ
    rw [Bool.and_eq_false_iff]
    left
    rw [List.all_eq_false]
    exact ⟨xs[j],List.getElem_mem hlt,by rw [hf];decide⟩)
   rw [show xs.getD j 0=xs[j] by rw [List.getD_eq_getElem?_getD,List.getElem?_eq_getElem hlt];rfl] at hc
   generalize xs[j]=x at *
   by_cases k1:x<l
   ·
    replace HV:=zH (HV.out (by rw [decide_eq_false (show ¬ l≤x by omega)];rfl))
    go_wp2
    go_ret
    rw [HV.out]
    exact ⟨rfl,rfl⟩
   ·
    have k1':decide (x<l)=false:=decide_eq_false k1
    by_cases k2:u<x
    ·
     replace HV:=zH (HV.out (by rw [decide_eq_false (show ¬ x≤u by omega),Bool.and_false]))
     go_wp2
     go_ret
     rw [HV.out]
     exact ⟨rfl,rfl⟩
    ·
     have k2':decide (u<x)=false:=decide_eq_false k2
     replace HT:=zH (HT.out.trans (show (decide (l≤x)&&decide (x≤u))=true by rw [decide_eq_true (show l≤x by omega),decide_eq_true (show x≤u by omega)];rfl))
     go_wp2
     go_roundg (xs.length - (j+1))
     case measure=>have:=HGN.out;omega
     case rel=>exact ⟨j+1,rfl,by go_num,by omega,rfl,HT.out⟩
  ·
   obtain rfl:j=xs.length:=by omega
   have HV:=zH (show cJ l u xs=decide (xs.length≤16) by
    unfold cJ
    have:=HB.out.2
    rw [List.take_length] at this
    rw [this];rfl)
   by_cases h16:xs.length≤16
   ·
    have h16':(xs.length:Int)≤16:=by omega
    rw [decide_eq_true h16] at HV
    go_wp2
    go_ret
    rw [HV.out]
    exact ⟨rfl,rfl⟩
   ·
    have h16' : ¬ (xs.length:Int)≤16:=by omega
    rw [decide_eq_false h16] at HV
    go_wp2
    go_ret
    rw [HV.out]
    exact ⟨by simp,rfl⟩
end
section
open Go.RowKit
structure cd where
 kind:Int
 key:ByteArray
 value:ByteArray
 at_:Int
 width:Int
 cm:Int
 mask:ByteArray
 busy:List Int
 reads:List Int
def cd.row (x:cd) (ba:Option Addr) (bc:Nat) (ra:Option Addr) (rc:Nat):Array Value := #[.int .i64 x.kind,.string x.key,.string x.value,.int .i64 x.at_,.int .i64 x.width,.int .i64 x.cm,.string x.mask,.slice ba x.busy.length bc,.slice ra x.reads.length rc]
def fV (w:World) (p:Nat) (x:cd) (ba:Option Addr) (bc:Nat) (ra:Option Addr) (rc:Nat):Prop:=w.heap[p]? = some (.cells (x.row ba bc ra rc) 31 (0,0))
def qN (x:cd):Bool:=decide (x.key.size≤12)&&decide (x.value.size≤40)&&decide (x.mask.size≤16)
theorem Dh (p:Nat) (x:cd) (ba:Option Addr) (bc:Nat) (ra:Option Addr) (rc:Nat) (w:World) (h:fV w p x ba bc ra rc):Calls prog 52 #[.pointer (some ⟨p,0,none⟩)] w fun e w'=>e=.returned (.bool (qN x))∧w=w':=by
 have c1:w.cell? ⟨p,1,none⟩=some (.string x.key):=cell_of h 1
 have c2:w.cell? ⟨p,2,none⟩=some (.string x.value):=cell_of h 2
 have c6:w.cell? ⟨p,6,none⟩=some (.string x.mask):=cell_of h 6
 clear h
 unfold qN
 by_cases k1:x.key.size≤12
 ·
  have k1':(x.key.size:Int)≤12:=by omega
  by_cases k2:x.value.size≤40
  ·
   have k2':(x.value.size:Int)≤40:=by omega
   by_cases k3:x.mask.size≤16
   ·
    have k3':(x.mask.size:Int)≤16:=by omega
    rw [decide_eq_true k1,decide_eq_true k2,decide_eq_true k3]
    clear k1 k2 k3
    go_enter func52,ntmps52
    go_wp2
    go_ret
    exact ⟨rfl,rfl⟩
   ·
    have k3' : ¬ (x.mask.size:Int)≤16:=by omega
    rw [decide_eq_true k1,decide_eq_true k2,decide_eq_false k3]
    clear k1 k2 k3
    go_enter func52,ntmps52
    go_wp2
    go_ret
    exact ⟨rfl,rfl⟩
  ·
   have k2' : ¬ (x.value.size:Int)≤40:=by omega
   rw [decide_eq_true k1,decide_eq_false k2,Bool.and_false,Bool.false_and]
   clear k1 k2
   go_enter func52,ntmps52
   go_wp2
   go_ret
   exact ⟨rfl,rfl⟩
 ·
  have k1' : ¬ (x.key.size:Int)≤12:=by omega
  rw [decide_eq_false k1,Bool.false_and,Bool.false_and]
  clear k1
  go_enter func52,ntmps52
  go_wp2
  go_ret
  exact ⟨rfl,rfl⟩
end
end Go.Proofs.YtcfdenckiigdaaaGreat
