/- Part 9 of the contracts. -/
import Derived.Test.YtcfdenckiigdaaaGreatFl08
set_option linter.unusedVariables false
set_option maxRecDepth 100000
set_option maxHeartbeats 4000000
namespace Go.Proofs.YtcfdenckiigdaaaGreat
open Tryz
section
open Go.RowKit
def lQ (x:Nat):ByteArray:=⟨#[UInt8.ofNat x,UInt8.ofNat (x / 256),UInt8.ofNat (x / 65536),UInt8.ofNat (x / 16777216)]⟩
def jt (s:ByteArray):Nat:=(bt s 0).toNat+256 * (bt s 1).toNat+65536 * (bt s 2).toNat+16777216 * (bt s 3).toNat
theorem pO (x:Nat) (w:World) (hx:x<4294967296):Calls prog 116 #[.int .i64 x] w (jm (lQ x) w):=by
 have hmk : ∀ w,(Instr.makeSlice 29 (.int .i64 4) (.int .i64 4)).run prog w=.ok (.slice (some ⟨w.heap.size,0,none⟩) 4 4) (w.alloc (.cells (Array.replicate 4 (.int .u8 0)) 5)):=fun _=>by kernel_rfl
 have KB:=zH (fun (w':World) (hc : ∀ j (hj:j<[UInt8.ofNat x,UInt8.ofNat (x / 256),UInt8.ofNat (x / 65536),UInt8.ofNat (x / 16777216)].length),w'.cell? ((⟨w.heap.size,0,none⟩:Addr).add j)=some (.int .u8 ([UInt8.ofNat x,UInt8.ofNat (x / 256),UInt8.ofNat (x / 65536),UInt8.ofNat (x / 16777216)][j].toNat:Int))) =>
  run_convert_bytes_back (P:=prog) w' 29 9 5 ⟨w.heap.size,0,none⟩ 4 _ underlying29 underlying5 underlying9 hc)
 go_enter func116,ntmps116
 go_wp2_with fail
 refine wp_loop_rounds 5 ?_
 iterate 5 (rw [rounds_succ];go_wp2_with fail)
 generalize hW:w.alloc _=w2
 have hb2:Below w.heap.size w w2:=by rw [← hW];exact ae zR _
 have kb:(convert 29 9 (.slice (some ⟨w.heap.size,0,none⟩) 4 4)).run prog w2=.ok (.string (lQ x)) w2:=KB.out w2 (by
  intro j hj
  rw [← hW]
  have h4:j<4:=hj
  rw [di]
  refine (cell_of (af w _) _).trans ?_
  match j,h4 with
  | 0,_=>simp
  | 1,_=>simp
  | 2,_=>simp
  | 3,_=>simp;omega)
 clear hW hmk KB
 rw [kb]
 go_wp2
 go_ret
 exact ⟨rfl,hb2⟩
theorem AX (a b k:Nat) (hk:k=8∨k=16∨k=24) (ha:a<2 ^ k) (hb:b<256):bits .or .i64 (a:Int) ((b:Int) * (2 ^ k:Nat))=((a+b * 2 ^ k:Nat):Int):=by
 have hp:(2:Nat) ^ k≤16777216:=by rcases hk with rfl | rfl | rfl <;> decide
 have hm:b * 2 ^ k≤255 * 16777216:=Nat.mul_le_mul (by omega) hp
 have e:a ||| b * 2 ^ k=a+b * 2 ^ k:=by
  have:=Nat.two_pow_add_eq_or_of_lt ha b
  rw [Nat.mul_comm b,Nat.or_comm,← this,Nat.add_comm]
 have:=nA a (b * 2 ^ k) (by omega) (by omega)
 rw [e] at this
 rw [← this];push_cast;rfl
theorem kF (s:ByteArray) (w:World) (h:4≤s.size):Calls prog 75 #[.string s] w fun e w'=>e=.returned (.int .i64 (jt s))∧w'=w:=by
 have hb:=fun i=>(bt s i).toNat_lt
 have g0:s[0]'(by omega)=bt s 0:=gT s 0 (by omega)
 have g1:s[1]'(by omega)=bt s 1:=gT s 1 (by omega)
 have g2:s[2]'(by omega)=bt s 2:=gT s 2 (by omega)
 have g3:s[3]'(by omega)=bt s 3:=gT s 3 (by omega)
 have i0:(0:Int)<(s.size:Int):=by omega
 have i1:(1:Int)<(s.size:Int):=by omega
 have i2:(2:Int)<(s.size:Int):=by omega
 have i3:(3:Int)<(s.size:Int):=by omega
 go_enter func75,ntmps75
 go_wp2_with fail
 refine wp_loop_rounds 5 ?_
 iterate 5 (rw [rounds_succ];go_wp2_with fail)
 go_ret
 refine ⟨?_,rfl⟩
 have h0:=hb 0
 have h1:=hb 1
 have h2:=hb 2
 have h3:=hb 3
 clear g0 g1 g2 g3 i0 i1 i2 i3 hb
 unfold jt
 generalize (bt s 0).toNat=b0 at *
 generalize (bt s 1).toNat=b1 at *
 generalize (bt s 2).toNat=b2 at *
 generalize (bt s 3).toNat=b3 at *
 have o0:bits .or .i64 0 (b0:Int)=((b0:Nat):Int):=by have:=nA 0 b0 (by omega) (by omega);simpa using this
 have o1:=AX b0 b1 8 (by decide) (by omega) (by omega)
 have o2:=AX (b0+b1 * 256) b2 16 (by decide) (by omega) (by omega)
 have o3:=AX (b0+b1 * 256+b2 * 65536) b3 24 (by decide) (by omega) (by omega)
 have w0 : ∀ z:Int,0≤z→z<9223372036854775808→wrap64 z=z:=fun z a b=>by unfold wrap64;omega
 simp only [w0 b0 (by omega) (by omega),w0 b1 (by omega) (by omega),w0 b2 (by omega) (by omega),w0 b3 (by omega) (by omega),w0 ((b1:Int) * 256) (by omega) (by omega),w0 ((b2:Int) * 65536) (by omega) (by omega),w0 ((b3:Int) * 16777216) (by omega) (by omega)]
 simp only [Nat.reducePow] at o1 o2 o3
 rw [o0]
 have o1':bits .or .i64 (b0:Int) ((b1:Int) * 256)=((b0+b1 * 256:Nat):Int):=o1
 have o2':bits .or .i64 ((b0+b1 * 256:Nat):Int) ((b2:Int) * 65536)=((b0+b1 * 256+b2 * 65536:Nat):Int):=o2
 have o3':bits .or .i64 ((b0+b1 * 256+b2 * 65536:Nat):Int) ((b3:Int) * 16777216)=((b0+b1 * 256+b2 * 65536+b3 * 16777216:Nat):Int):=o3
 rw [o1',o2',o3']
 have ez:(b0+b1 * 256+b2 * 65536+b3 * 16777216:Nat)=b0+256 * b1+65536 * b2+16777216 * b3:=by clear o0 o1 o2 o3 o1' o2' o3' w0;omega
 rw [ez]
 rfl
theorem mv (x:Nat) (w:World) (h:x=4096∨x=512∨x=32):Calls prog 202 #[.int .i64 x] w (kP true w):=by
 rcases h with rfl | rfl | rfl
 all_goals
  go_enter func202,ntmps202
  go_wp2
  go_ret
  exact ⟨by first | rfl | decide,rfl⟩
theorem qk (w:World):Calls prog 192 #[.int .i64 4096,.int .i64 512,.int .i64 32] w fun e w'=>e=.returned (.tuple #[.string bn,.int .i64 0])∧Below w.heap.size w w':=by
 have HM1:=zH (fun w=>mv 4096 w (by decide))
 have HM2:=zH (fun w=>mv 512 w (by decide))
 have HM3:=zH (fun w=>mv 32 w (by decide))
 have HL1:=zH (fun w=>pO 4096 w (by decide))
 have HL2:=zH (fun w=>pO 512 w (by decide))
 have HL3:=zH (fun w=>pO 32 w (by decide))
 have HR:=zH (fun w=>Tryz.strings_Repeat ⟨#[255]⟩ 12 w (by decide) (by decide))
 go_enter func192,ntmps192
 go_wp2_with fail
 generalize hW:w.alloc _=w0
 have hb0:Below w.heap.size w w0:=by rw [← hW];exact ae zR _
 have a0:w0.cell? ⟨w.heap.size,0,none⟩=some (.int .i64 4096):=by rw [← hW];exact cell_of (af w _) 0
 have a1:w0.cell? ⟨w.heap.size,1,none⟩=some (.int .i64 512):=by rw [← hW];exact cell_of (af w _) 1
 have a2:w0.cell? ⟨w.heap.size,2,none⟩=some (.int .i64 32):=by rw [← hW];exact cell_of (af w _) 2
 have hlt:w.heap.size<w0.heap.size:=by rw [← hW];simp
 clear hW
 refine wp_loop_rounds 4 ?_
 rw [rounds_succ]
 go_wp2_with fail
 refine (HM1.out _).mono ?_
 rintro e w1 ⟨rfl,rfl⟩
 go_wp2_with fail
 refine (HL1.out _).mono ?_
 rintro e w2 ⟨rfl,hb2⟩
 have b1:=(hb2.cell (p:=⟨w.heap.size,1,none⟩) hlt).trans a1
 have b2:=(hb2.cell (p:=⟨w.heap.size,2,none⟩) hlt).trans a2
 have hlt2:=zV hlt hb2.size
 have hb02:=gtr hb0 hb2
 clear hb2 a0 a1 a2 hb0 hlt
 go_wp2_with fail
 rw [rounds_succ]
 go_wp2_with fail
 refine (HM2.out _).mono ?_
 rintro e w1 ⟨rfl,rfl⟩
 go_wp2_with fail
 refine (HL2.out _).mono ?_
 rintro e w3 ⟨rfl,hb3⟩
 have d2:=(hb3.cell (p:=⟨w.heap.size,2,none⟩) hlt2).trans b2
 have hb03:=gtr hb02 hb3
 clear hb3 hb02 b1 b2
 go_wp2_with fail
 rw [rounds_succ]
 go_wp2_with fail
 refine (HM3.out _).mono ?_
 rintro e w1 ⟨rfl,rfl⟩
 go_wp2_with fail
 refine (HL3.out _).mono ?_
 rintro e w4 ⟨rfl,hb4⟩
 have hb04:=gtr hb03 hb4
 clear hb4 hb03
 go_wp2_with fail
 rw [rounds_succ]
 go_wp2_with fail
 refine (HR.out _).mono ?_
 rintro e w5 ⟨rfl,hb5⟩
 have hb05:=gtr hb04 hb5
 clear hb04 hb5
 go_wp2
 go_ret2
 exact ⟨by first | rfl | decide,hb05⟩
end
section
open Go.RowKit
theorem rW (w:World):(callFunc 234 #[]).run prog w=.ok (.value (.tuple #[])) w:=run_call_mark0 func234 (by kernel_rfl) (by kernel_rfl) (by kernel_rfl) .disable (by kernel_rfl) w
theorem uE (w:World):(callFunc 236 #[]).run prog w=.ok (.value (.tuple #[])) w:=run_call_mark0 func236 (by kernel_rfl) (by kernel_rfl) (by kernel_rfl) .enable (by kernel_rfl) w
theorem A4 (a:Addr) (w:World):(callFunc 237 #[.pointer (some a)]).run prog w=.ok (.value (.tuple #[])) w:=run_call_marked func237 (by kernel_rfl) (by kernel_rfl) (by kernel_rfl) .acquire (by kernel_rfl) a w
theorem rX (a:Addr) (w:World):(callFunc 239 #[.pointer (some a)]).run prog w=.ok (.value (.tuple #[])) w:=run_call_marked func239 (by kernel_rfl) (by kernel_rfl) (by kernel_rfl) .releaseMerge (by kernel_rfl) a w
theorem xT (a:Addr) (x:Value) (u:FrameMode) (w:World) (hc:w.cell? a=some x) (hz:w.frozen? a=false):CallsD prog 213 #[.pointer (some a),.bool true] u w fun e u' w'=>u'=u∧(e=.returned (.tuple #[])∧w'=w.drew.setCell a (.int .u32 1)):=by
 have hc':w.drew.cell? a=some x:=by go_simp
 have hz':w.drew.frozen? a=false:=by go_simp
 have hst:=run_call_store (P:=prog) func228 (by kernel_rfl) (by kernel_rfl) (by kernel_rfl) (by kernel_rfl) (k:=.u32) (y:=1) hc' hz'
 go_enter_d func213,ntmps213
 go_wp2
 go_region_calls
 all_goals (go_end0;exact ⟨rfl,rfl⟩)
theorem vj (a:Addr) (u:FrameMode) (w:World) (hc:w.cell? a=some (.int .i32 1)) (hz:w.frozen? a=false):CallsD prog 212 #[.pointer (some a)] u w fun e u' w'=>u'=u∧(e=.returned (.tuple #[])∧w'=w.setCell a (.int .i32 0)):=by
 have hd:=rW
 have he:=uE
 have hr:=rX
 have hadd:=run_call_add (P:=prog) func240 (by kernel_rfl) (by kernel_rfl) (by kernel_rfl) .i32 (by kernel_rfl) (y := -1) (s:=0) hc hz (by simp [go_sem];rfl)
 have hcv:=run_convert_to_unsafe (P:=prog) (src:=314) (dst:=275) underlying314 underlying275 (by kernel_rfl) hc
 go_enter_d func212,ntmps212
 go_wp2
 go_end0
 go_wp2
 go_end0
 exact ⟨rfl,rfl⟩
theorem He (a:Addr) (w:World) (hc:w.cell? a=some (.int .i32 0)) (hz:w.frozen? a=false):Calls prog 211 #[.pointer (some a)] w fun e w'=>e=.returned (.tuple #[])∧w'=w.setCell a (.int .i32 1):=by
 have hd:=rW
 have he:=uE
 have ha:=A4
 have hcas:=run_call_cas_hit (P:=prog) func235 (by kernel_rfl) (by kernel_rfl) (by kernel_rfl) .i32 (by kernel_rfl) (y:=1) hc hz
 have hc':(w.setCell a (.int .i32 1)).cell? a=some (.int .i32 1):=World.cell?_setCell_same w a _ hc
 have hcv:=run_convert_to_unsafe (P:=prog) (src:=314) (dst:=275) underlying314 underlying275 (by kernel_rfl) hc'
 go_enter func211,ntmps211
 go_wp2
 first | go_end0 | (simp only [Exit.inBlock,Exit.then];refine bodyPost_ret (results_none rfl _ _ _) rfl ?_) | refine bodyPost_ret (results_none rfl _ _ _) rfl ?_
 go_wp2
 go_end0
 exact ⟨rfl,rfl⟩
structure Ar (b off:Nat) (Q:World→Prop) (e:Ending) (w':World):Prop where
 ret:e=.returned (.tuple #[])
 q:Q w'
 c0:w'.cell? ⟨b,off,none⟩=some (.int .u32 0)
 c1:w'.cell? ⟨b,off+1,none⟩=some (.int .i32 1)
 f0:w'.frozen? ⟨b,off,none⟩=false
 f1:w'.frozen? ⟨b,off+1,none⟩=false
theorem J7 (b off fn:Nat) (caps:Array Value) (Q:World→Prop) (w:World) (h0:w.cell? ⟨b,off,none⟩=some (.int .u32 0)) (h1:w.cell? ⟨b,off+1,none⟩=some (.int .i32 0)) (f0:w.frozen? ⟨b,off,none⟩=false) (f1:w.frozen? ⟨b,off+1,none⟩=false) (hcf : ∀ w,(callFunc fn caps).run prog w=.ok (.enter fn caps) w) (hf:Calls prog fn caps (w.setCell ⟨b,off+1,none⟩ (.int .i32 1)) (Ar b off Q)):Calls prog 199 #[.pointer (some ⟨b,off,none⟩),.func (.func fn) #[] caps] w fun e w'=>e=.returned (.tuple #[]) ∧ ∃ w2,Q w2∧w'=(w2.drew.setCell ⟨b,off,none⟩ (.int .u32 1)).setCell ⟨b,off+1,none⟩ (.int .i32 0):=by
 have hl:=run_call_load (P:=prog) func210 (by kernel_rfl) (by kernel_rfl) (by kernel_rfl) .u32 (by kernel_rfl) (w:=w.setCell ⟨b,off+1,none⟩ (.int .i32 1)) (a:=⟨b,off,none⟩) (x:=0) ((World.cell?_setCell_other _ ⟨b,off+1,none⟩ ⟨b,off,none⟩ _ (by simp)).trans h0)
 have hnot : ∀ (x:Bool) (w:World),(Op.unary .not (.bool x)).run prog w=.ok (.bool (!x)) w:=fun _ _=>rfl
 have HF:=zH hf
 clear hf
 go_enter_defers func199,ntmps199
 go_wp2_with (first | (go_at_call 211;refine (He ⟨b,off+1,none⟩ _ (by go_simp) (by go_simp)).mono ?_;rintro e w' ⟨rfl,rfl⟩) | (go_at_call 198;go_in))
 refine HF.out.mono ?_
 rintro e w2 ⟨rfl,q,c0,c1,z0,z1⟩
 go_wp2
 refine leaves_cons (f:=213) (args := #[.pointer (some ⟨b,off,none⟩),.bool true]) (by simp) (by simp [go_sem]) ?_
 refine (xT ⟨b,off,none⟩ (.int .u32 0) .returning _ c0 z0).mono ?_
 rintro e u' w'' ⟨rfl,rfl,rfl⟩
 refine leaves_cons (f:=212) (args := #[.pointer (some ⟨b,off+1,none⟩)]) (by simp [settle]) (by simp [go_sem]) ?_
 refine (vj ⟨b,off+1,none⟩ _ _ ?_ (by simp [z1])).mono ?_
 ·
  refine (World.cell?_setCell_other _ ⟨b,off,none⟩ ⟨b,off+1,none⟩ _ (by simp)).trans ?_
  rw [World.cell?_drew]
  exact c1
 rintro e u' w'' ⟨rfl,rfl,rfl⟩
 simp [Leaves,settle,results,results199]
 exact ⟨w2,q,rfl⟩
theorem BZ (b off fn:Nat) (caps:Array Value) (Q:World→Prop) (w:World) (h0:w.cell? ⟨b,off,none⟩=some (.int .u32 0)) (h1:w.cell? ⟨b,off+1,none⟩=some (.int .i32 0)) (f0:w.frozen? ⟨b,off,none⟩=false) (f1:w.frozen? ⟨b,off+1,none⟩=false) (hcf : ∀ w,(callFunc fn caps).run prog w=.ok (.enter fn caps) w) (hf:Calls prog fn caps (w.setCell ⟨b,off+1,none⟩ (.int .i32 1)) (Ar b off Q)):Calls prog 185 #[.pointer (some ⟨b,off,none⟩),.func (.func fn) #[] caps] w fun e w'=>e=.returned (.tuple #[]) ∧ ∃ w2,Q w2∧w'=(w2.drew.setCell ⟨b,off,none⟩ (.int .u32 1)).setCell ⟨b,off+1,none⟩ (.int .i32 0):=by
 have hl:=run_call_load (P:=prog) func210 (by kernel_rfl) (by kernel_rfl) (by kernel_rfl) .u32 (by kernel_rfl) h0
 have hnot : ∀ (x:Bool) (w:World),(Op.unary .not (.bool x)).run prog w=.ok (.bool (!x)) w:=fun _ _=>rfl
 have HS:=zH (J7 b off fn caps Q w h0 h1 f0 f1 hcf hf)
 clear hf hcf
 go_enter func185,ntmps185
 go_wp2_with (first | (go_at_call 199;refine HS.out.mono ?_;rintro e w' ⟨rfl,w2,q,rfl⟩) | (go_at_call 198;go_in))
 go_end0
 exact ⟨rfl,w2,q,rfl⟩
theorem Fx (a:Addr) (d:Int) (hd : ¬ d=0) (fv:Value) (w:World) (h0:w.cell? a=some (.int .u32 d)):Calls prog 185 #[.pointer (some a),fv] w fun e w'=>e=.returned (.tuple #[])∧w'=w:=by
 have hl:=run_call_load (P:=prog) func210 (by kernel_rfl) (by kernel_rfl) (by kernel_rfl) .u32 (by kernel_rfl) h0
 have hnot : ∀ (x:Bool) (w:World),(Op.unary .not (.bool x)).run prog w=.ok (.bool (!x)) w:=fun _ _=>rfl
 have hd':(d != 0)=true:=by simp [hd]
 go_enter func185,ntmps185
 go_wp2
 go_end0
 exact ⟨rfl,rfl⟩
end
section
open Go.RowKit
def IM (c:Nat) (s:Raw) (w:World) (w2:World):Prop:=aV w2 c { s with yv:=bn }∧Touch (aO c) w w2
theorem Bg (c bx:Nat) (s:Raw) (w:World) (h:aV w c s) (hb:w.cell? ⟨bx,0,none⟩=some (.pointer (some ⟨c,0,none⟩))) (hs0:s.o0=0) (hs1:s.o1=1) (hne:bx≠c):Calls prog 257 #[.pointer (some ⟨bx,0,none⟩)] w (Ar c 11 (IM c s w)):=by
 have hd:aV w.drew c s:=h
 have x0:w.drew.cell? ⟨bx,0,none⟩=some (.pointer (some ⟨c,0,none⟩)):=hb
 have hxl:bx<w.drew.heap.size:=zL w _ hb
 have HP:=zH (qk w.drew)
 have HD:=zH (zA hd (zA hs0 hs1))
 clear h hb hd hs0 hs1
 go_enter func257,ntmps257
 go_wp2_with fail
 refine wp_region_noPanic ?_
 refine wp_region_held_drew (S:=(fun w'=>w'.cell? ⟨bx,0,none⟩=some (.pointer (some ⟨c,0,none⟩)))) (by kernel_rfl) (by (try dsimp only);exact x0) fun hHeld => ?_
 refine tk 0 ?_
 refine tr 1 fun K hK => ?_
 go_simp
 go_at_call 192
 refine HP.out.mono ?_
 rintro e w1 ⟨rfl,hb1⟩
 have hd1:=HD.out.1.aj hb1
 have d14:w1.cell? ⟨c,14,none⟩=some (.string s.yv):=cell_of hd1 14
 have f14:w1.frozen? ⟨c,14,none⟩=false:=aF hd1 14
 have x1:w1.cell? ⟨bx,0,none⟩=some (.pointer (some ⟨c,0,none⟩)):=(hb1.cell (p:=⟨bx,0,none⟩) hxl).trans x0
 go_wp2_with fail
 refine hK.out _ _ (by (try dsimp only);exact x1) fun hHeld => ?_
 clear hK K
 try simp only [Act.put,zS,zT,zU]
 refine tk 2 ?_
 refine tk 3 ?_
 refine tk 4 ?_
 refine tk 5 ?_
 refine tk 6 ?_
 refine tr 7 fun K hK => ?_
 go_simp
 skip
 refine hK.out _ _ (by (try dsimp only);(rw [World.cell?_setCell_other _ _ _ _ (by intro e;have:=congrArg Addr.block e;simp at this;omega)];exact x1)) fun hHeld => ?_
 clear hK K
 try simp only [Act.put,zS,zT,zU]
 refine wpAnyH_done (by kernel_rfl) ?_ _
 refine NoPanic.normal ?_
 have t2:Touch (aO c) w (w1.setCell ⟨c,14,none⟩ (.string bn)):=(((Touch.refl (aO c) w).drew).trans (Touch.ah hb1)).set c 14 _ rfl
 go_wp2_with fail
 go_end0
 have hr:aV (w1.setCell ⟨c,14,none⟩ (.string bn)) c { s with yv:=bn }:=az (i:=14) (v:=.string bn) hd1
 exact ⟨rfl,⟨hr,t2⟩,(cell_of hr 11).trans (by simp [Raw.row,HD.out.2.1]),(cell_of hr 12).trans (by simp [Raw.row,HD.out.2.2]),aF hr 11,aF hr 12⟩
def Gi (c:Nat) (m:ag) (F:Nat→Prop) (w:World) (e:Ending) (w':World):Prop:=e=.returned (.string bn) ∧ ∃ s',bJ w' c s' m F∧Touch (aO c) w w'
theorem uN (c:Nat) (s:Raw) (m:ag) (F:Nat→Prop) (w:World) (h:bJ w c s m F):Calls prog 254 #[.pointer (some ⟨c,0,none⟩)] w (Gi c m F w):=by
 have hmf : ∀ (fn:Fn) (first cap:Array Value) (w:World),(Instr.makeFunc fn first cap).run prog w=.ok (.func fn first cap) w:=fun _ _ _ _=>rfl
 have hb1:Below w.heap.size w (w.alloc (.cells #[.pointer (some ⟨c,0,none⟩)] 79)):=ae zR _
 have h1 : ∃ s,bJ (w.alloc (.cells #[.pointer (some ⟨c,0,none⟩)] 79)) c s m F:=(h.shut.aj hb1).open
 obtain ⟨s1,h1⟩:=h1
 have p0:(w.alloc (.cells #[.pointer (some ⟨c,0,none⟩)] 79)).cell? ⟨w.heap.size,0,none⟩=some (.pointer (some ⟨c,0,none⟩)):=cell_of (af w _) 0
 have hcl:c<w.heap.size:=aP h.raw
 have HB:=zH hb1
 clear h hb1
 generalize hW:w.alloc (.cells #[.pointer (some ⟨c,0,none⟩)] 79)=w1 at *
 rcases h1.bU.once with ⟨o0,o1,o2⟩ | ⟨o0,o1,o2,o3⟩
 ·
  have hr1:aV (w1.setCell ⟨c,12,none⟩ (.int .i32 1)) c { s1 with o1:=1 }:=az (i:=12) (v:=.int .i32 1) h1.raw
  have k0:(w1.setCell ⟨c,12,none⟩ (.int .i32 1)).cell? ⟨w.heap.size,0,none⟩=some (.pointer (some ⟨c,0,none⟩)):=by
   rw [World.cell?_setCell_other _ _ _ _ (by intro e;have:=congrArg Addr.block e;simp at this;omega)];exact p0
  have HD:=zH (BZ c 11 257 #[.pointer (some ⟨w.heap.size,0,none⟩)] (IM c { s1 with o1:=1 } (w1.setCell ⟨c,12,none⟩ (.int .i32 1))) w1 ((cell_of h1.raw 11).trans (by simp [Raw.row,o0])) ((cell_of h1.raw 12).trans (by simp [Raw.row,o1])) (aF h1.raw 11) (aF h1.raw 12) (fun _=>by kernel_rfl) (Bg c w.heap.size { s1 with o1:=1 } _ hr1 k0 o0 rfl (by omega)))
  have t1:Touch (aO c) w (w1.setCell ⟨c,12,none⟩ (.int .i32 1)):=(Touch.ah HB.out).set c 12 _ rfl
  have HH:=zH (zA h1 (zA t1 o2))
  clear h1 hr1 k0 o0 o1 o2 t1
  go_enter func254,ntmps254
  go_wp2_with fail
  try rw [hW]
  refine HD.out.mono ?_
  rintro e w2 ⟨rfl,w3,⟨q,tq⟩,rfl⟩
  obtain ⟨h1,t1,o2⟩:=HH.out
  have q2:aV ((w3.drew.setCell ⟨c,11,none⟩ (.int .u32 1)).setCell ⟨c,12,none⟩ (.int .i32 0)) c { s1 with o0:=1,o1:=0,yv:=bn } :=
   az (i:=12) (v:=.int .i32 0) (az (i:=11) (v:=.int .u32 1) (show aV w3.drew c _ from q))
  have t2:Touch (aO c) w1 ((w3.drew.setCell ⟨c,11,none⟩ (.int .u32 1)).setCell ⟨c,12,none⟩ (.int .i32 0)) :=
   (((((Touch.refl (aO c) w1).set c 12 _ rfl).trans tq).drew).set c 11 _ rfl).set c 12 _ rfl
  have px:((w3.drew.setCell ⟨c,11,none⟩ (.int .u32 1)).setCell ⟨c,12,none⟩ (.int .i32 0)).cell? ⟨w.heap.size,0,none⟩=some (.pointer (some ⟨c,0,none⟩)):=t2.cell _ _ p0 (fun e=>by have:w.heap.size=c:=e;omega)
  have hs:=h1.bU
  have h2:=h1.block (m':=m) q2 ⟨hs.cells,hs.bq,hs.bk,hs.dQ,hs.en,hs.aD,hs.op,hs.ay,hs.left,hs.cO,hs.addr,hs.mode,hs.cL,hs.told,hs.now,hs.beyond,.inr ⟨rfl,rfl,o2,rfl⟩⟩ t2 rfl rfl rfl rfl rfl rfl
  have t3:=(Touch.ah (F:=aO c) HB.out).trans t2
  have c14:=cell_of q2 14
  have HF:=zH (zA h2 t3)
  generalize (w3.drew.setCell ⟨c,11,none⟩ (.int .u32 1)).setCell ⟨c,12,none⟩ (.int .i32 0)=w4 at *
  replace c14:w4.cell? ⟨c,14,none⟩=some (.string bn):=c14
  clear q tq q2 t2 h2 t3 hs h1 t1 HD HH
  go_wp2
  go_ret
  exact ⟨rfl,_,HF.out.1,HF.out.2⟩
 ·
  have HD:=zH (fun fv=>Fx ⟨c,11,none⟩ 1 (by decide) fv w1 ((cell_of h1.raw 11).trans (by simp [Raw.row,o0])))
  have c14:w1.cell? ⟨c,14,none⟩=some (.string bn):=by rw [← o3];exact cell_of h1.raw 14
  have HF:=zH (zA h1 (Touch.ah (F:=aO c) HB.out))
  clear h1 o0 o1 o2 o3
  go_enter func254,ntmps254
  go_wp2_with fail
  try rw [hW]
  refine (HD.out _).mono ?_
  rintro e w2 ⟨rfl,rfl⟩
  go_wp2
  go_ret
  exact ⟨rfl,_,HF.out.1,HF.out.2⟩
end
section
open Go.RowKit
def Bs (x:Int) (c:Nat) (m:ag) (F:Nat→Prop) (w:World) (e:Ending) (w':World):Prop:=e=.returned (.int .i64 x)∧aS w' c m F∧Step F F w w'
theorem gE (x:UInt8):wrap64 (x.toNat:Int)=(x.toNat:Int):=by have:=x.toNat_lt;unfold wrap64;omega
theorem Fk (x:UInt8):IntKind.i64.wrap (x.toNat:Int)=(x.toNat:Int):=by have:=x.toNat_lt;exact du (by omega) (by omega)
theorem AD (c:Nat) (m:ag) (F:Nat→Prop) (i:Nat) (w:World) (h:aS w c m F) (ok:m.Ok) (hi:i≤1099511627776):Calls prog 252 #[.pointer (some ⟨c,0,none⟩),.int .i64 i] w (Bs (m.eM i) c m F w):=by
 have HS:=zH (Bf c m F w h)
 have HH:=zH h
 have HT:=zH (fun (s:Raw) (w1:World) (h1:bJ w1 c s m F)=>uN c s m F w1 h1)
 have hsz:=zH ok.size
 obtain ⟨A,hA⟩:=Int.eq_ofNat_of_zero_le ok.fX
 have hA2:A<4096:=by have:=ok.gG;omega
 obtain ⟨x,hx⟩ : ∃ x,x=m.eM i:=⟨_,rfl⟩
 rw [← hx]
 have HE:=zH hx
 have HA:=zH hA
 clear h ok hx hA
 go_enter func252,ntmps252
 go_wp2_with fail
 refine HS.out.mono ?_
 rintro e w1 ⟨rfl,hb⟩
 have h1:=HH.out.aj hb
 have hst:=zH (Step.ah (F:=F) hb)
 have HH1:=zH h1
 obtain ⟨s1,h1⟩:=h1.open
 have c20:w1.cell? ⟨c,20,none⟩=some (.int .i64 m.op.byte):=by rw [← h1.bU.op];exact cell_of h1.raw 20
 have c29:w1.cell? ⟨c,29,none⟩=some (.int .i64 (A:Int)):=by rw [← HA.out,← h1.bU.addr];exact cell_of h1.raw 29
 have c0:w1.cell? ⟨c,0,none⟩=some (.string m.cells):=by rw [← h1.bU.cells];exact cell_of h1.raw 0
 have HR:=zH (HT.out s1 w1 h1)
 have hlt:=zH h1.raw.lt
 have h1':=zH h1
 clear h1 hb HS HH HT
 by_cases b159:m.op.byte=159
 ·
  rw [b159] at c20
  have HB:=zH b159
  have g:(i:Int) % 3=0∨(i:Int) % 3=1∨(i:Int) % 3=2:=by omega
  clear b159 c0 c29
  have k0 : ∀ w,(Instr.index 137 (.agg #[.int .i64 239,.int .i64 64,.int .i64 12]) (.int .i64 0)).run prog w=.ok (.int .i64 239) w:=fun _=>by kernel_rfl
  have k1 : ∀ w,(Instr.index 137 (.agg #[.int .i64 239,.int .i64 64,.int .i64 12]) (.int .i64 1)).run prog w=.ok (.int .i64 64) w:=fun _=>by kernel_rfl
  have k2 : ∀ w,(Instr.index 137 (.agg #[.int .i64 239,.int .i64 64,.int .i64 12]) (.int .i64 2)).run prog w=.ok (.int .i64 12) w:=fun _=>by kernel_rfl
  rcases g with g | g | g
  all_goals
   go_wp2
   go_ret
   exact ⟨by rw [HE.out];unfold ag.eM;rw [if_pos HB.out,g];rfl,HH1.out,hst.out⟩
 have HB159:=zH b159
 by_cases b5:m.op.byte=5
 ·
  rw [b5] at c20
  have HB:=zH b5
  clear b5 b159 c0 c29
  go_wp2
  go_ret
  exact ⟨by rw [HE.out];unfold ag.eM;rw [if_neg HB159.out,if_pos HB.out];rfl,HH1.out,hst.out⟩
 have HB5:=zH b5
 by_cases b53:m.op.byte=53
 ·
  rw [b53] at c20
  have HB:=zH b53
  clear b53 b5 b159 c0 c29
  go_wp2
  go_ret
  exact ⟨by rw [HE.out];unfold ag.eM;rw [if_neg HB159.out,if_neg HB5.out,if_pos HB.out];rfl,HH1.out,hst.out⟩
 have HB53:=zH b53
 by_cases b90:m.op.byte=90
 ·
  rw [b90] at c20
  have HB:=zH b90
  have hk:((A:Int)+(i:Int)) % 32=(((A+i) % 32:Nat):Int):=by omega
  have hk2:(A+i) % 32<32:=Nat.mod_lt _ (by decide)
  have HV:m.eM i=((bt bn ((A+i) % 32)).toNat:Int):=by
   unfold ag.eM
   rw [if_neg HB159.out,if_neg HB5.out,if_neg HB53.out,if_pos HB.out,HA.out,hk];rfl
  have HV:=zH HV
  generalize (A+i) % 32=k at *
  have hk3:k<bn.size:=hk2
  have hg:bn[k]'hk3=bt bn k:=gT bn k hk3
  have hk4:(k:Int)<(bn.size:Int):=by omega
  have HK4:=zH hg
  clear hg b90 b53 b5 b159 c0
  have hkw:(IntKind.i64.wrap ((A:Int)+(i:Int))).tmod 32=(k:Int):=by
   rw [du (by omega) (by omega),Int.tmod_eq_emod_of_nonneg (by omega)];exact hk
  obtain ⟨s2,h2⟩:=(HH1.out.aj (au zR)).open
  have HR:=zH (uN c s2 m F w1.drew h2)
  have h1':=zH h2
  clear h2 hk
  go_wp2_with fail
  refine wp_region_noPanic ?_
  refine wp_region_held_drew (S:=(fun w'=>w'.cell? ⟨c,29,none⟩=some (.int .i64 (A:Int)))) (by kernel_rfl) (by (try dsimp only);exact c29) fun hHeld => ?_
  refine tk 0 ?_
  refine tk 2 ?_
  refine tk 3 ?_
  refine tk 4 ?_
  refine tk 5 ?_
  refine tk 6 ?_
  refine tk 7 ?_
  refine tk 8 ?_
  refine tk 9 ?_
  refine tk 10 ?_
  refine tr 1 fun K hK => ?_
  go_simp
  go_at_call 254
  refine HR.out.mono ?_
  rintro e w2 ⟨rfl,s2,h2,t2⟩
  have d29:w2.cell? ⟨c,29,none⟩=some (.int .i64 (A:Int)):=by rw [← HA.out,← h2.bU.addr];exact cell_of h2.raw 29
  go_wp2_with fail
  refine hK.out _ _ (by (try dsimp only);exact d29) fun hHeld => ?_
  clear hK K
  try simp only [Act.put,zS,zT,zU]
  refine tk 11 ?_
  refine tk 12 ?_
  refine tk 13 ?_
  refine wpAnyH_done (by kernel_rfl) ?_ _
  refine NoPanic.normal ?_
  go_wp2
  go_ret
  exact ⟨by rw [HE.out,HV.out,← HK4.out];simp only [Fk];rfl,h2.shut,((hst.out.trans (Step.ah (au zR))).trans (h1'.out.step t2))⟩
 have HB90:=zH b90
 have hk:((A:Int)+(i:Int)) % 4096=(((A+i) % 4096:Nat):Int):=by omega
 have hk2:(A+i) % 4096<4096:=Nat.mod_lt _ (by decide)
 have HV:m.eM i=((bt m.cells ((A+i) % 4096)).toNat:Int):=by
  unfold ag.eM
  rw [if_neg HB159.out,if_neg HB5.out,if_neg HB53.out,if_neg HB90.out,HA.out,hk];rfl
 have HV:=zH HV
 generalize (A+i) % 4096=k at *
 have hk3:k<m.cells.size:=by rw [hsz.out];exact hk2
 have hg:m.cells[k]'hk3=bt m.cells k:=gT m.cells k hk3
 have hk4:(k:Int)<(m.cells.size:Int):=by omega
 have HK4:=zH hg
 clear hg
 go_wp2_with fail
 go_quiet (fail)
 go_wp2
 go_ret
 exact ⟨by rw [HE.out,HV.out,← HK4.out];simp only [gE];rfl,HH1.out.aj (aY zR _),hst.out.trans (Step.ah (aY zR _))⟩
end
end Go.Proofs.YtcfdenckiigdaaaGreat
