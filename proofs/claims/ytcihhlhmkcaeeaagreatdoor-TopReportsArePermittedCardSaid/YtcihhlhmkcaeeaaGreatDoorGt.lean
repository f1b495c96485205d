import Derived.Test.YtcihhlhmkcaeeaaGreatDoorGk49
import Derived.Test.YtcihhlhmkcaeeaaGreatDoorProg
set_option linter.unusedVariables false
set_option maxRecDepth 100000
namespace Go.Proofs.YtcihhlhmkcaeeaaGreatDoor
open Go.Gk
def tbl:List (Nat×TI):=[
(2,⟨(.int .i64),1,8,(.int .i64 0)⟩),
(3,⟨(.int .i64),1,8,(.int .i64 0)⟩),
(4,⟨TypeDesc.bool,1,1,(.bool false)⟩),
(5,⟨(.int .u8),1,1,(.int .u8 0)⟩),
(6,⟨(.int .u8),1,1,(.int .u8 0)⟩),
(7,⟨(TypeDesc.struct #[⟨ "x",2,0,false,"","runtime",0⟩,⟨ "y",3,1,false,"","runtime",8⟩,⟨ "signed",4,2,false,"","runtime",16⟩,⟨ "code",6,3,false,"","runtime",17⟩]),4,24,(Value.agg #[.int .i64 0,.int .i64 0,.bool false,.int .u8 0])⟩),
(8,⟨(TypeDesc.struct #[⟨ "x",2,0,false,"","runtime",0⟩,⟨ "y",3,1,false,"","runtime",8⟩,⟨ "signed",4,2,false,"","runtime",16⟩,⟨ "code",6,3,false,"","runtime",17⟩]),4,24,(Value.agg #[.int .i64 0,.int .i64 0,.bool false,.int .u8 0])⟩),
(9,⟨TypeDesc.string,1,16,(.string ⟨#[]⟩)⟩),
(10,⟨TypeDesc.string,1,16,(.string ⟨#[]⟩)⟩),
(11,⟨TypeDesc.string,1,16,(.string ⟨#[]⟩)⟩),
(12,⟨(.int .u64),1,8,(.int .u64 0)⟩),
(13,⟨(TypeDesc.struct #[⟨ "msg",9,0,false,"","runtime",0⟩,⟨ "addr",12,1,false,"","runtime",16⟩]),2,24,(Value.agg #[.string ⟨#[]⟩,.int .u64 0])⟩),
(14,⟨(TypeDesc.struct #[⟨ "msg",9,0,false,"","runtime",0⟩,⟨ "addr",12,1,false,"","runtime",16⟩]),2,24,(Value.agg #[.string ⟨#[]⟩,.int .u64 0])⟩),
(15,⟨(TypeDesc.pointer 365),1,8,(Value.pointer none)⟩),
(16,⟨(TypeDesc.pointer 368),1,8,(Value.pointer none)⟩),
(17,⟨(TypeDesc.pointer 376),1,8,(Value.pointer none)⟩),
(18,⟨(TypeDesc.struct #[⟨ "typ",17,0,false,"","internal/runtime/maps",0⟩]),1,8,(Value.agg #[Value.pointer none])⟩),
(19,⟨(TypeDesc.struct #[⟨ "typ",17,0,false,"","internal/runtime/maps",0⟩]),1,8,(Value.agg #[Value.pointer none])⟩),
(21,⟨(.int .i32),1,4,(.int .i32 0)⟩),
(22,⟨(TypeDesc.slice 3),1,24,(Value.slice none 0 0)⟩),
(23,⟨(TypeDesc.pointer 25),1,8,(Value.pointer none)⟩),
(24,⟨(TypeDesc.struct #[⟨ "L",22,0,false,"","",0⟩,⟨ "at",3,1,false,"","holloway/lanemake",24⟩]),2,32,(Value.agg #[Value.slice none 0 0,.int .i64 0])⟩),
(25,⟨(TypeDesc.struct #[⟨ "L",22,0,false,"","",0⟩,⟨ "at",3,1,false,"","holloway/lanemake",24⟩]),2,32,(Value.agg #[Value.slice none 0 0,.int .i64 0])⟩),
(26,⟨(TypeDesc.slice 103),1,24,(Value.slice none 0 0)⟩),
(27,⟨(TypeDesc.slice 109),1,24,(Value.slice none 0 0)⟩),
(28,⟨(TypeDesc.slice 111),1,24,(Value.slice none 0 0)⟩),
(29,⟨(TypeDesc.slice 115),1,24,(Value.slice none 0 0)⟩),
(30,⟨(TypeDesc.slice 118),1,24,(Value.slice none 0 0)⟩),
(31,⟨(TypeDesc.struct #[⟨ "Groups",27,0,false,"","",0⟩,⟨ "Hosts",28,1,false,"","",24⟩,⟨ "Grants",29,2,false,"","",48⟩,⟨ "Tests",30,3,false,"","",72⟩]),4,96,(Value.agg #[Value.slice none 0 0,Value.slice none 0 0,Value.slice none 0 0,Value.slice none 0 0])⟩),
(32,⟨(TypeDesc.struct #[⟨ "Groups",27,0,false,"","",0⟩,⟨ "Hosts",28,1,false,"","",24⟩,⟨ "Grants",29,2,false,"","",48⟩,⟨ "Tests",30,3,false,"","",72⟩]),4,96,(Value.agg #[Value.slice none 0 0,Value.slice none 0 0,Value.slice none 0 0,Value.slice none 0 0])⟩),
(33,⟨(TypeDesc.slice 63),1,24,(Value.slice none 0 0)⟩),
(34,⟨(TypeDesc.struct #[⟨ "Nodes",26,0,false,"","",0⟩,⟨ "Policy",32,1,false,"","",24⟩,⟨ "Facts",33,5,false,"","",120⟩]),6,144,(Value.agg #[Value.slice none 0 0,Value.slice none 0 0,Value.slice none 0 0,Value.slice none 0 0,Value.slice none 0 0,Value.slice none 0 0])⟩),
(35,⟨(TypeDesc.struct #[⟨ "Nodes",26,0,false,"","",0⟩,⟨ "Policy",32,1,false,"","",24⟩,⟨ "Facts",33,5,false,"","",120⟩]),6,144,(Value.agg #[Value.slice none 0 0,Value.slice none 0 0,Value.slice none 0 0,Value.slice none 0 0,Value.slice none 0 0,Value.slice none 0 0])⟩),
(37,⟨(TypeDesc.slice 50),1,24,(Value.slice none 0 0)⟩),
(40,⟨(.int .i64),1,8,(.int .i64 0)⟩),
(44,⟨(.int .u64),1,8,(.int .u64 0)⟩),
(45,⟨(TypeDesc.struct #[⟨ "Six",4,0,false,"","",0⟩,⟨ "Hi",44,1,false,"","",8⟩,⟨ "Lo",44,2,false,"","",16⟩]),3,24,(Value.agg #[.bool false,.int .u64 0,.int .u64 0])⟩),
(46,⟨(TypeDesc.struct #[⟨ "Six",4,0,false,"","",0⟩,⟨ "Hi",44,1,false,"","",8⟩,⟨ "Lo",44,2,false,"","",16⟩]),3,24,(Value.agg #[.bool false,.int .u64 0,.int .u64 0])⟩),
(47,⟨(TypeDesc.struct #[⟨ "Proto",3,0,false,"","",0⟩,⟨ "From",46,1,false,"","",8⟩,⟨ "To",46,4,false,"","",32⟩,⟨ "FromPort",3,7,false,"","",56⟩,⟨ "ToPort",3,8,false,"","",64⟩]),9,72,(Value.agg #[.int .i64 0,.bool false,.int .u64 0,.int .u64 0,.bool false,.int .u64 0,.int .u64 0,.int .i64 0,.int .i64 0])⟩),
(48,⟨(TypeDesc.struct #[⟨ "Proto",3,0,false,"","",0⟩,⟨ "From",46,1,false,"","",8⟩,⟨ "To",46,4,false,"","",32⟩,⟨ "FromPort",3,7,false,"","",56⟩,⟨ "ToPort",3,8,false,"","",64⟩]),9,72,(Value.agg #[.int .i64 0,.bool false,.int .u64 0,.int .u64 0,.bool false,.int .u64 0,.int .u64 0,.int .i64 0,.int .i64 0])⟩),
(49,⟨(TypeDesc.struct #[⟨ "Node",9,0,false,"","",0⟩,⟨ "Hour",3,1,false,"","",16⟩,⟨ "Out",4,2,false,"","",24⟩,⟨ "Flow",48,3,false,"","",32⟩,⟨ "Packets",3,12,false,"","",104⟩,⟨ "Bytes",3,13,false,"","",112⟩]),14,120,(Value.agg #[.string ⟨#[]⟩,.int .i64 0,.bool false,.int .i64 0,.bool false,.int .u64 0,.int .u64 0,.bool false,.int .u64 0,.int .u64 0,.int .i64 0,.int .i64 0,.int .i64 0,.int .i64 0])⟩),
(50,⟨(TypeDesc.struct #[⟨ "Node",9,0,false,"","",0⟩,⟨ "Hour",3,1,false,"","",16⟩,⟨ "Out",4,2,false,"","",24⟩,⟨ "Flow",48,3,false,"","",32⟩,⟨ "Packets",3,12,false,"","",104⟩,⟨ "Bytes",3,13,false,"","",112⟩]),14,120,(Value.agg #[.string ⟨#[]⟩,.int .i64 0,.bool false,.int .i64 0,.bool false,.int .u64 0,.int .u64 0,.bool false,.int .u64 0,.int .u64 0,.int .i64 0,.int .i64 0,.int .i64 0,.int .i64 0])⟩),
(62,⟨(TypeDesc.struct #[⟨ "Node",9,0,false,"","",0⟩,⟨ "Posture",9,1,false,"","",16⟩]),2,32,(Value.agg #[.string ⟨#[]⟩,.string ⟨#[]⟩])⟩),
(63,⟨(TypeDesc.struct #[⟨ "Node",9,0,false,"","",0⟩,⟨ "Posture",9,1,false,"","",16⟩]),2,32,(Value.agg #[.string ⟨#[]⟩,.string ⟨#[]⟩])⟩),
(70,⟨(TypeDesc.slice 9),1,24,(Value.slice none 0 0)⟩),
(75,⟨(TypeDesc.pointer 50),1,8,(Value.pointer none)⟩),
(79,⟨(TypeDesc.pointer 132),1,8,(Value.pointer none)⟩),
(82,⟨(TypeDesc.pointer 139),1,8,(Value.pointer none)⟩),
(91,⟨(TypeDesc.slice 5),1,24,(Value.slice none 0 0)⟩),
(100,⟨(TypeDesc.slice 46),1,24,(Value.slice none 0 0)⟩),
(101,⟨(TypeDesc.slice 106),1,24,(Value.slice none 0 0)⟩),
(102,⟨(TypeDesc.struct #[⟨ "Key",9,0,false,"","",0⟩,⟨ "User",9,1,false,"","",16⟩,⟨ "Name",9,2,false,"","",32⟩,⟨ "Tags",70,3,false,"","",48⟩,⟨ "Addrs",100,4,false,"","",72⟩,⟨ "Routes",101,5,false,"","",96⟩]),6,120,(Value.agg #[.string ⟨#[]⟩,.string ⟨#[]⟩,.string ⟨#[]⟩,Value.slice none 0 0,Value.slice none 0 0,Value.slice none 0 0])⟩),
(103,⟨(TypeDesc.struct #[⟨ "Key",9,0,false,"","",0⟩,⟨ "User",9,1,false,"","",16⟩,⟨ "Name",9,2,false,"","",32⟩,⟨ "Tags",70,3,false,"","",48⟩,⟨ "Addrs",100,4,false,"","",72⟩,⟨ "Routes",101,5,false,"","",96⟩]),6,120,(Value.agg #[.string ⟨#[]⟩,.string ⟨#[]⟩,.string ⟨#[]⟩,Value.slice none 0 0,Value.slice none 0 0,Value.slice none 0 0])⟩),
(104,⟨(TypeDesc.slice 70),1,24,(Value.slice none 0 0)⟩),
(105,⟨(TypeDesc.struct #[⟨ "Addr",46,0,false,"","",0⟩,⟨ "Bits",3,3,false,"","",24⟩]),4,32,(Value.agg #[.bool false,.int .u64 0,.int .u64 0,.int .i64 0])⟩),
(106,⟨(TypeDesc.struct #[⟨ "Addr",46,0,false,"","",0⟩,⟨ "Bits",3,3,false,"","",24⟩]),4,32,(Value.agg #[.bool false,.int .u64 0,.int .u64 0,.int .i64 0])⟩),
(108,⟨(TypeDesc.struct #[⟨ "Name",9,0,false,"","",0⟩,⟨ "Members",70,1,false,"","",16⟩]),2,40,(Value.agg #[.string ⟨#[]⟩,Value.slice none 0 0])⟩),
(109,⟨(TypeDesc.struct #[⟨ "Name",9,0,false,"","",0⟩,⟨ "Members",70,1,false,"","",16⟩]),2,40,(Value.agg #[.string ⟨#[]⟩,Value.slice none 0 0])⟩),
(110,⟨(TypeDesc.struct #[⟨ "Name",9,0,false,"","",0⟩,⟨ "Net",106,1,false,"","",16⟩]),5,48,(Value.agg #[.string ⟨#[]⟩,.bool false,.int .u64 0,.int .u64 0,.int .i64 0])⟩),
(111,⟨(TypeDesc.struct #[⟨ "Name",9,0,false,"","",0⟩,⟨ "Net",106,1,false,"","",16⟩]),5,48,(Value.agg #[.string ⟨#[]⟩,.bool false,.int .u64 0,.int .u64 0,.int .i64 0])⟩),
(112,⟨(TypeDesc.slice 146),1,24,(Value.slice none 0 0)⟩),
(113,⟨(TypeDesc.slice 150),1,24,(Value.slice none 0 0)⟩),
(114,⟨(TypeDesc.struct #[⟨ "Src",112,0,false,"","",0⟩,⟨ "Dst",113,1,false,"","",24⟩,⟨ "Proto",3,2,false,"","",48⟩,⟨ "Postures",70,3,false,"","",56⟩]),4,80,(Value.agg #[Value.slice none 0 0,Value.slice none 0 0,.int .i64 0,Value.slice none 0 0])⟩),
(115,⟨(TypeDesc.struct #[⟨ "Src",112,0,false,"","",0⟩,⟨ "Dst",113,1,false,"","",24⟩,⟨ "Proto",3,2,false,"","",48⟩,⟨ "Postures",70,3,false,"","",56⟩]),4,80,(Value.agg #[Value.slice none 0 0,Value.slice none 0 0,.int .i64 0,Value.slice none 0 0])⟩),
(117,⟨(TypeDesc.struct #[⟨ "Flow",48,0,false,"","",0⟩,⟨ "Accept",4,9,false,"","",72⟩]),10,80,(Value.agg #[.int .i64 0,.bool false,.int .u64 0,.int .u64 0,.bool false,.int .u64 0,.int .u64 0,.int .i64 0,.int .i64 0,.bool false])⟩),
(118,⟨(TypeDesc.struct #[⟨ "Flow",48,0,false,"","",0⟩,⟨ "Accept",4,9,false,"","",72⟩]),10,80,(Value.agg #[.int .i64 0,.bool false,.int .u64 0,.int .u64 0,.bool false,.int .u64 0,.int .u64 0,.int .i64 0,.int .i64 0,.bool false])⟩),
(129,⟨(TypeDesc.map 46 9),1,8,(Value.map none)⟩),
(131,⟨(TypeDesc.struct #[⟨ "nodes",26,0,false,"","holloway/flow",0⟩,⟨ "list",37,1,false,"","holloway/flow",24⟩,⟨ "owners",129,2,false,"","holloway/flow",48⟩]),3,56,(Value.agg #[Value.slice none 0 0,Value.slice none 0 0,Value.map none])⟩),
(132,⟨(TypeDesc.struct #[⟨ "nodes",26,0,false,"","holloway/flow",0⟩,⟨ "list",37,1,false,"","holloway/flow",24⟩,⟨ "owners",129,2,false,"","holloway/flow",48⟩]),3,56,(Value.agg #[Value.slice none 0 0,Value.slice none 0 0,Value.map none])⟩),
(133,⟨(TypeDesc.map 46 3),1,8,(Value.map none)⟩),
(134,⟨(TypeDesc.map 63 4),1,8,(Value.map none)⟩),
(135,⟨(TypeDesc.map 9 142),1,8,(Value.map none)⟩),
(136,⟨(TypeDesc.slice 142),1,24,(Value.slice none 0 0)⟩),
(137,⟨(TypeDesc.slice 136),1,24,(Value.slice none 0 0)⟩),
(138,⟨(TypeDesc.struct #[⟨ "s",35,0,false,"","holloway/view",0⟩,⟨ "owners",133,6,false,"","holloway/view",144⟩,⟨ "meets",134,7,false,"","holloway/view",152⟩,⟨ "src",136,8,false,"","holloway/view",160⟩,⟨ "dst",137,9,false,"","holloway/view",184⟩,⟨ "own",135,10,false,"","holloway/view",208⟩]),11,216,(Value.agg #[Value.slice none 0 0,Value.slice none 0 0,Value.slice none 0 0,Value.slice none 0 0,Value.slice none 0 0,Value.slice none 0 0,Value.map none,Value.map none,Value.slice none 0 0,Value.slice none 0 0,Value.map none])⟩),
(139,⟨(TypeDesc.struct #[⟨ "s",35,0,false,"","holloway/view",0⟩,⟨ "owners",133,6,false,"","holloway/view",144⟩,⟨ "meets",134,7,false,"","holloway/view",152⟩,⟨ "src",136,8,false,"","holloway/view",160⟩,⟨ "dst",137,9,false,"","holloway/view",184⟩,⟨ "own",135,10,false,"","holloway/view",208⟩]),11,216,(Value.agg #[Value.slice none 0 0,Value.slice none 0 0,Value.slice none 0 0,Value.slice none 0 0,Value.slice none 0 0,Value.slice none 0 0,Value.map none,Value.map none,Value.slice none 0 0,Value.slice none 0 0,Value.map none])⟩),
(140,⟨(TypeDesc.map 9 100),1,8,(Value.map none)⟩),
(141,⟨(TypeDesc.slice 180),1,24,(Value.slice none 0 0)⟩),
(142,⟨(TypeDesc.slice 180),1,24,(Value.slice none 0 0)⟩),
(145,⟨(TypeDesc.struct #[⟨ "Kind",3,0,false,"","",0⟩,⟨ "Name",9,1,false,"","",8⟩,⟨ "Net",106,2,false,"","",24⟩]),6,56,(Value.agg #[.int .i64 0,.string ⟨#[]⟩,.bool false,.int .u64 0,.int .u64 0,.int .i64 0])⟩),
(146,⟨(TypeDesc.struct #[⟨ "Kind",3,0,false,"","",0⟩,⟨ "Name",9,1,false,"","",8⟩,⟨ "Net",106,2,false,"","",24⟩]),6,56,(Value.agg #[.int .i64 0,.string ⟨#[]⟩,.bool false,.int .u64 0,.int .u64 0,.int .i64 0])⟩),
(147,⟨(TypeDesc.struct #[⟨ "From",3,0,false,"","",0⟩,⟨ "To",3,1,false,"","",8⟩]),2,16,(Value.agg #[.int .i64 0,.int .i64 0])⟩),
(148,⟨(TypeDesc.struct #[⟨ "From",3,0,false,"","",0⟩,⟨ "To",3,1,false,"","",8⟩]),2,16,(Value.agg #[.int .i64 0,.int .i64 0])⟩),
(149,⟨(TypeDesc.struct #[⟨ "What",146,0,false,"","",0⟩,⟨ "Ports",148,6,false,"","",56⟩]),8,72,(Value.agg #[.int .i64 0,.string ⟨#[]⟩,.bool false,.int .u64 0,.int .u64 0,.int .i64 0,.int .i64 0,.int .i64 0])⟩),
(150,⟨(TypeDesc.struct #[⟨ "What",146,0,false,"","",0⟩,⟨ "Ports",148,6,false,"","",56⟩]),8,72,(Value.agg #[.int .i64 0,.string ⟨#[]⟩,.bool false,.int .u64 0,.int .u64 0,.int .i64 0,.int .i64 0,.int .i64 0])⟩),
(156,⟨(TypeDesc.pointer 158),1,8,(Value.pointer none)⟩),
(157,⟨(TypeDesc.struct #[⟨ "p",32,0,false,"","holloway/rule",0⟩,⟨ "kind",3,4,false,"","holloway/rule",96⟩]),5,104,(Value.agg #[Value.slice none 0 0,Value.slice none 0 0,Value.slice none 0 0,Value.slice none 0 0,.int .i64 0])⟩),
(158,⟨(TypeDesc.struct #[⟨ "p",32,0,false,"","holloway/rule",0⟩,⟨ "kind",3,4,false,"","holloway/rule",96⟩]),5,104,(Value.agg #[Value.slice none 0 0,Value.slice none 0 0,Value.slice none 0 0,Value.slice none 0 0,.int .i64 0])⟩),
(159,⟨(.int .u64),1,8,(.int .u64 0)⟩),
(161,⟨(TypeDesc.array 2 46),6,48,(Value.agg #[.bool false,.int .u64 0,.int .u64 0,.bool false,.int .u64 0,.int .u64 0])⟩),
(162,⟨(TypeDesc.array 2 3),2,16,(Value.agg #[.int .i64 0,.int .i64 0])⟩),
(165,⟨(TypeDesc.map 46 4),1,8,(Value.map none)⟩),
(174,⟨(TypeDesc.slice 44),1,24,(Value.slice none 0 0)⟩),
(179,⟨(TypeDesc.struct #[⟨ "First",46,0,false,"","",0⟩,⟨ "Last",46,3,false,"","",24⟩]),6,48,(Value.agg #[.bool false,.int .u64 0,.int .u64 0,.bool false,.int .u64 0,.int .u64 0])⟩),
(180,⟨(TypeDesc.struct #[⟨ "First",46,0,false,"","",0⟩,⟨ "Last",46,3,false,"","",24⟩]),6,48,(Value.agg #[.bool false,.int .u64 0,.int .u64 0,.bool false,.int .u64 0,.int .u64 0])⟩),
(195,⟨(TypeDesc.array 8 44),8,64,(Value.agg #[.int .u64 0,.int .u64 0,.int .u64 0,.int .u64 0,.int .u64 0,.int .u64 0,.int .u64 0,.int .u64 0])⟩),
(211,⟨(TypeDesc.array 9 3),9,72,(Value.agg #[.int .i64 0,.int .i64 0,.int .i64 0,.int .i64 0,.int .i64 0,.int .i64 0,.int .i64 0,.int .i64 0,.int .i64 0])⟩),
(212,⟨(TypeDesc.array 9 3),9,72,(Value.agg #[.int .i64 0,.int .i64 0,.int .i64 0,.int .i64 0,.int .i64 0,.int .i64 0,.int .i64 0,.int .i64 0,.int .i64 0])⟩),
(217,⟨(TypeDesc.map 3 4),1,8,(Value.map none)⟩),
(237,⟨(TypeDesc.pointer 239),1,8,(Value.pointer none)⟩),
(238,⟨(TypeDesc.struct #[⟨ "addr",237,0,false,"","strings",0⟩,⟨ "buf",91,1,false,"","strings",8⟩]),2,32,(Value.agg #[Value.pointer none,Value.slice none 0 0])⟩),
(239,⟨(TypeDesc.struct #[⟨ "addr",237,0,false,"","strings",0⟩,⟨ "buf",91,1,false,"","strings",8⟩]),2,32,(Value.agg #[Value.pointer none,Value.slice none 0 0])⟩),
(242,⟨(TypeDesc.interface #[("Error",245)]),1,16,(Value.nilIface)⟩),
(264,⟨(TypeDesc.array 256 4),256,256,(Value.agg (([.bool false,.bool false,.bool false,.bool false,.bool false,.bool false,.bool false,.bool false,.bool false,.bool false,.bool false,.bool false,.bool false,.bool false,.bool false,.bool false,.bool false,.bool false,.bool false,.bool false,.bool false,.bool false,.bool false,.bool false,.bool false,.bool false,.bool false,.bool false,.bool false,.bool false,.bool false,.bool false,.bool false,.bool false,.bool false,.bool false,.bool false,.bool false,.bool false,.bool false,.bool false,.bool false,.bool false,.bool false,.bool false,.bool false,.bool false,.bool false,.bool false,.bool false,.bool false,.bool false,.bool false,.bool false,.bool false,.bool false,.bool false,.bool false,.bool false,.bool false,.bool false,.bool false,.bool false,.bool false].append [.bool false,.bool false,.bool false,.bool false,.bool false,.bool false,.bool false,.bool false,.bool false,.bool false,.bool false,.bool false,.bool false,.bool false,.bool false,.bool false,.bool false,.bool false,.bool false,.bool false,.bool false,.bool false,.bool false,.bool false,.bool false,.bool false,.bool false,.bool false,.bool false,.bool false,.bool false,.bool false,.bool false,.bool false,.bool false,.bool false,.bool false,.bool false,.bool false,.bool false,.bool false,.bool false,.bool false,.bool false,.bool false,.bool false,.bool false,.bool false,.bool false,.bool false,.bool false,.bool false,.bool false,.bool false,.bool false,.bool false,.bool false,.bool false,.bool false,.bool false,.bool false,.bool false,.bool false,.bool false]).append ([.bool false,.bool false,.bool false,.bool false,.bool false,.bool false,.bool false,.bool false,.bool false,.bool false,.bool false,.bool false,.bool false,.bool false,.bool false,.bool false,.bool false,.bool false,.bool false,.bool false,.bool false,.bool false,.bool false,.bool false,.bool false,.bool false,.bool false,.bool false,.bool false,.bool false,.bool false,.bool false,.bool false,.bool false,.bool false,.bool false,.bool false,.bool false,.bool false,.bool false,.bool false,.bool false,.bool false,.bool false,.bool false,.bool false,.bool false,.bool false,.bool false,.bool false,.bool false,.bool false,.bool false,.bool false,.bool false,.bool false,.bool false,.bool false,.bool false,.bool false,.bool false,.bool false,.bool false,.bool false].append [.bool false,.bool false,.bool false,.bool false,.bool false,.bool false,.bool false,.bool false,.bool false,.bool false,.bool false,.bool false,.bool false,.bool false,.bool false,.bool false,.bool false,.bool false,.bool false,.bool false,.bool false,.bool false,.bool false,.bool false,.bool false,.bool false,.bool false,.bool false,.bool false,.bool false,.bool false,.bool false,.bool false,.bool false,.bool false,.bool false,.bool false,.bool false,.bool false,.bool false,.bool false,.bool false,.bool false,.bool false,.bool false,.bool false,.bool false,.bool false,.bool false,.bool false,.bool false,.bool false,.bool false,.bool false,.bool false,.bool false,.bool false,.bool false,.bool false,.bool false,.bool false,.bool false,.bool false,.bool false])).toArray)⟩),
(268,⟨(TypeDesc.pointer 264),1,8,(Value.pointer none)⟩),
(276,⟨(TypeDesc.slice 4),1,24,(Value.slice none 0 0)⟩),
(280,⟨(TypeDesc.array 24 5),24,24,(Value.agg #[.int .u8 0,.int .u8 0,.int .u8 0,.int .u8 0,.int .u8 0,.int .u8 0,.int .u8 0,.int .u8 0,.int .u8 0,.int .u8 0,.int .u8 0,.int .u8 0,.int .u8 0,.int .u8 0,.int .u8 0,.int .u8 0,.int .u8 0,.int .u8 0,.int .u8 0,.int .u8 0,.int .u8 0,.int .u8 0,.int .u8 0,.int .u8 0])⟩),
(285,⟨(TypeDesc.pointer 5),1,8,(Value.pointer none)⟩),
(297,⟨(.int .i64),1,8,(.int .i64 0)⟩),
(304,⟨(.int .u32),1,4,(.int .u32 0)⟩),
(309,⟨(TypeDesc.array 20 44),20,160,(Value.agg #[.int .u64 0,.int .u64 0,.int .u64 0,.int .u64 0,.int .u64 0,.int .u64 0,.int .u64 0,.int .u64 0,.int .u64 0,.int .u64 0,.int .u64 0,.int .u64 0,.int .u64 0,.int .u64 0,.int .u64 0,.int .u64 0,.int .u64 0,.int .u64 0,.int .u64 0,.int .u64 0])⟩),
(310,⟨(TypeDesc.array 65 5),65,65,(Value.agg ([.int .u8 0,.int .u8 0,.int .u8 0,.int .u8 0,.int .u8 0,.int .u8 0,.int .u8 0,.int .u8 0,.int .u8 0,.int .u8 0,.int .u8 0,.int .u8 0,.int .u8 0,.int .u8 0,.int .u8 0,.int .u8 0,.int .u8 0,.int .u8 0,.int .u8 0,.int .u8 0,.int .u8 0,.int .u8 0,.int .u8 0,.int .u8 0,.int .u8 0,.int .u8 0,.int .u8 0,.int .u8 0,.int .u8 0,.int .u8 0,.int .u8 0,.int .u8 0].append [.int .u8 0,.int .u8 0,.int .u8 0,.int .u8 0,.int .u8 0,.int .u8 0,.int .u8 0,.int .u8 0,.int .u8 0,.int .u8 0,.int .u8 0,.int .u8 0,.int .u8 0,.int .u8 0,.int .u8 0,.int .u8 0,.int .u8 0,.int .u8 0,.int .u8 0,.int .u8 0,.int .u8 0,.int .u8 0,.int .u8 0,.int .u8 0,.int .u8 0,.int .u8 0,.int .u8 0,.int .u8 0,.int .u8 0,.int .u8 0,.int .u8 0,.int .u8 0,.int .u8 0]).toArray)⟩),
(342,⟨(TypeDesc.struct #[⟨ "lo",5,0,false,"","unicode/utf8",0⟩,⟨ "hi",5,1,false,"","unicode/utf8",1⟩]),2,2,(Value.agg #[.int .u8 0,.int .u8 0])⟩),
(351,⟨(TypeDesc.array 64 5),64,64,(Value.agg #[.int .u8 0,.int .u8 0,.int .u8 0,.int .u8 0,.int .u8 0,.int .u8 0,.int .u8 0,.int .u8 0,.int .u8 0,.int .u8 0,.int .u8 0,.int .u8 0,.int .u8 0,.int .u8 0,.int .u8 0,.int .u8 0,.int .u8 0,.int .u8 0,.int .u8 0,.int .u8 0,.int .u8 0,.int .u8 0,.int .u8 0,.int .u8 0,.int .u8 0,.int .u8 0,.int .u8 0,.int .u8 0,.int .u8 0,.int .u8 0,.int .u8 0,.int .u8 0,.int .u8 0,.int .u8 0,.int .u8 0,.int .u8 0,.int .u8 0,.int .u8 0,.int .u8 0,.int .u8 0,.int .u8 0,.int .u8 0,.int .u8 0,.int .u8 0,.int .u8 0,.int .u8 0,.int .u8 0,.int .u8 0,.int .u8 0,.int .u8 0,.int .u8 0,.int .u8 0,.int .u8 0,.int .u8 0,.int .u8 0,.int .u8 0,.int .u8 0,.int .u8 0,.int .u8 0,.int .u8 0,.int .u8 0,.int .u8 0,.int .u8 0,.int .u8 0])⟩),
(365,⟨(TypeDesc.struct #[⟨ "_interface",17,0,false,"","runtime",0⟩,⟨ "concrete",17,1,false,"","runtime",8⟩,⟨ "asserted",17,2,false,"","runtime",16⟩,⟨ "missingMethod",9,3,false,"","runtime",24⟩]),4,40,(Value.agg #[Value.pointer none,Value.pointer none,Value.pointer none,.string ⟨#[]⟩])⟩),
(366,⟨(TypeDesc.array 0 16),0,0,(Value.agg #[])⟩),
(368,⟨(TypeDesc.struct #[⟨ "_",366,0,false,"","runtime",0⟩]),0,0,(Value.agg #[])⟩),
(370,⟨(.int .u8),1,1,(.int .u8 0)⟩),
(371,⟨(.int .u8),1,1,(.int .u8 0)⟩),
(373,⟨(.int .i32),1,4,(.int .i32 0)⟩),
(374,⟨(.int .i32),1,4,(.int .i32 0)⟩),
(376,⟨(TypeDesc.struct #[⟨ "Size_",12,0,false,"","",0⟩,⟨ "PtrBytes",12,1,false,"","",8⟩,⟨ "Hash",304,2,false,"","",16⟩,⟨ "TFlag",370,3,false,"","",20⟩,⟨ "Align_",5,4,false,"","",21⟩,⟨ "FieldAlign_",5,5,false,"","",22⟩,⟨ "Kind_",371,6,false,"","",23⟩,⟨ "Equal",372,7,false,"","",24⟩,⟨ "GCData",285,8,false,"","",32⟩,⟨ "Str",373,9,false,"","",40⟩,⟨ "PtrToThis",374,10,false,"","",44⟩]),11,48,(Value.agg #[.int .u64 0,.int .u64 0,.int .u32 0,.int .u8 0,.int .u8 0,.int .u8 0,.int .u8 0,Value.nilFunc,Value.pointer none,.int .i32 0,.int .i32 0])⟩)]
def Γ(t:TypeId):Option TI:=Gk.look tbl t
theorem hΓ:TOK Tryz.prog Γ:=Gk.Kcd _ (
 And.intro ⟨Tryz.underlying2,Tryz.t2,Tryz.type2,rfl,rfl,rfl⟩ (
 And.intro ⟨Tryz.underlying3,Tryz.t3,Tryz.type3,rfl,rfl,rfl⟩ (
 And.intro ⟨Tryz.underlying4,Tryz.t4,Tryz.type4,rfl,rfl,rfl⟩ (
 And.intro ⟨Tryz.underlying5,Tryz.t5,Tryz.type5,rfl,rfl,rfl⟩ (
 And.intro ⟨Tryz.underlying6,Tryz.t6,Tryz.type6,rfl,rfl,rfl⟩ (
 And.intro ⟨Tryz.underlying7,Tryz.t7,Tryz.type7,rfl,rfl,rfl⟩ (
 And.intro ⟨Tryz.underlying8,Tryz.t8,Tryz.type8,rfl,rfl,rfl⟩ (
 And.intro ⟨Tryz.underlying9,Tryz.t9,Tryz.type9,rfl,rfl,rfl⟩ (
 And.intro ⟨Tryz.underlying10,Tryz.t10,Tryz.type10,rfl,rfl,rfl⟩ (
 And.intro ⟨Tryz.underlying11,Tryz.t11,Tryz.type11,rfl,rfl,rfl⟩ (
 And.intro ⟨Tryz.underlying12,Tryz.t12,Tryz.type12,rfl,rfl,rfl⟩ (
 And.intro ⟨Tryz.underlying13,Tryz.t13,Tryz.type13,rfl,rfl,rfl⟩ (
 And.intro ⟨Tryz.underlying14,Tryz.t14,Tryz.type14,rfl,rfl,rfl⟩ (
 And.intro ⟨Tryz.underlying15,Tryz.t15,Tryz.type15,rfl,rfl,rfl⟩ (
 And.intro ⟨Tryz.underlying16,Tryz.t16,Tryz.type16,rfl,rfl,rfl⟩ (
 And.intro ⟨Tryz.underlying17,Tryz.t17,Tryz.type17,rfl,rfl,rfl⟩ (
 And.intro ⟨Tryz.underlying18,Tryz.t18,Tryz.type18,rfl,rfl,rfl⟩ (
 And.intro ⟨Tryz.underlying19,Tryz.t19,Tryz.type19,rfl,rfl,rfl⟩ (
 And.intro ⟨Tryz.underlying21,Tryz.t21,Tryz.type21,rfl,rfl,rfl⟩ (
 And.intro ⟨Tryz.underlying22,Tryz.t22,Tryz.type22,rfl,rfl,rfl⟩ (
 And.intro ⟨Tryz.underlying23,Tryz.t23,Tryz.type23,rfl,rfl,rfl⟩ (
 And.intro ⟨Tryz.underlying24,Tryz.t24,Tryz.type24,rfl,rfl,rfl⟩ (
 And.intro ⟨Tryz.underlying25,Tryz.t25,Tryz.type25,rfl,rfl,rfl⟩ (
 And.intro ⟨Tryz.underlying26,Tryz.t26,Tryz.type26,rfl,rfl,rfl⟩ (
 And.intro ⟨Tryz.underlying27,Tryz.t27,Tryz.type27,rfl,rfl,rfl⟩ (
 And.intro ⟨Tryz.underlying28,Tryz.t28,Tryz.type28,rfl,rfl,rfl⟩ (
 And.intro ⟨Tryz.underlying29,Tryz.t29,Tryz.type29,rfl,rfl,rfl⟩ (
 And.intro ⟨Tryz.underlying30,Tryz.t30,Tryz.type30,rfl,rfl,rfl⟩ (
 And.intro ⟨Tryz.underlying31,Tryz.t31,Tryz.type31,rfl,rfl,rfl⟩ (
 And.intro ⟨Tryz.underlying32,Tryz.t32,Tryz.type32,rfl,rfl,rfl⟩ (
 And.intro ⟨Tryz.underlying33,Tryz.t33,Tryz.type33,rfl,rfl,rfl⟩ (
 And.intro ⟨Tryz.underlying34,Tryz.t34,Tryz.type34,rfl,rfl,rfl⟩ (
 And.intro ⟨Tryz.underlying35,Tryz.t35,Tryz.type35,rfl,rfl,rfl⟩ (
 And.intro ⟨Tryz.underlying37,Tryz.t37,Tryz.type37,rfl,rfl,rfl⟩ (
 And.intro ⟨Tryz.underlying40,Tryz.t40,Tryz.type40,rfl,rfl,rfl⟩ (
 And.intro ⟨Tryz.underlying44,Tryz.t44,Tryz.type44,rfl,rfl,rfl⟩ (
 And.intro ⟨Tryz.underlying45,Tryz.t45,Tryz.type45,rfl,rfl,rfl⟩ (
 And.intro ⟨Tryz.underlying46,Tryz.t46,Tryz.type46,rfl,rfl,rfl⟩ (
 And.intro ⟨Tryz.underlying47,Tryz.t47,Tryz.type47,rfl,rfl,rfl⟩ (
 And.intro ⟨Tryz.underlying48,Tryz.t48,Tryz.type48,rfl,rfl,rfl⟩ (
 And.intro ⟨Tryz.underlying49,Tryz.t49,Tryz.type49,rfl,rfl,rfl⟩ (
 And.intro ⟨Tryz.underlying50,Tryz.t50,Tryz.type50,rfl,rfl,rfl⟩ (
 And.intro ⟨Tryz.underlying62,Tryz.t62,Tryz.type62,rfl,rfl,rfl⟩ (
 And.intro ⟨Tryz.underlying63,Tryz.t63,Tryz.type63,rfl,rfl,rfl⟩ (
 And.intro ⟨Tryz.underlying70,Tryz.t70,Tryz.type70,rfl,rfl,rfl⟩ (
 And.intro ⟨Tryz.underlying75,Tryz.t75,Tryz.type75,rfl,rfl,rfl⟩ (
 And.intro ⟨Tryz.underlying79,Tryz.t79,Tryz.type79,rfl,rfl,rfl⟩ (
 And.intro ⟨Tryz.underlying82,Tryz.t82,Tryz.type82,rfl,rfl,rfl⟩ (
 And.intro ⟨Tryz.underlying91,Tryz.t91,Tryz.type91,rfl,rfl,rfl⟩ (
 And.intro ⟨Tryz.underlying100,Tryz.t100,Tryz.type100,rfl,rfl,rfl⟩ (
 And.intro ⟨Tryz.underlying101,Tryz.t101,Tryz.type101,rfl,rfl,rfl⟩ (
 And.intro ⟨Tryz.underlying102,Tryz.t102,Tryz.type102,rfl,rfl,rfl⟩ (
 And.intro ⟨Tryz.underlying103,Tryz.t103,Tryz.type103,rfl,rfl,rfl⟩ (
 And.intro ⟨Tryz.underlying104,Tryz.t104,Tryz.type104,rfl,rfl,rfl⟩ (
 And.intro ⟨Tryz.underlying105,Tryz.t105,Tryz.type105,rfl,rfl,rfl⟩ (
 And.intro ⟨Tryz.underlying106,Tryz.t106,Tryz.type106,rfl,rfl,rfl⟩ (
 And.intro ⟨Tryz.underlying108,Tryz.t108,Tryz.type108,rfl,rfl,rfl⟩ (
 And.intro ⟨Tryz.underlying109,Tryz.t109,Tryz.type109,rfl,rfl,rfl⟩ (
 And.intro ⟨Tryz.underlying110,Tryz.t110,Tryz.type110,rfl,rfl,rfl⟩ (
 And.intro ⟨Tryz.underlying111,Tryz.t111,Tryz.type111,rfl,rfl,rfl⟩ (
 And.intro ⟨Tryz.underlying112,Tryz.t112,Tryz.type112,rfl,rfl,rfl⟩ (
 And.intro ⟨Tryz.underlying113,Tryz.t113,Tryz.type113,rfl,rfl,rfl⟩ (
 And.intro ⟨Tryz.underlying114,Tryz.t114,Tryz.type114,rfl,rfl,rfl⟩ (
 And.intro ⟨Tryz.underlying115,Tryz.t115,Tryz.type115,rfl,rfl,rfl⟩ (
 And.intro ⟨Tryz.underlying117,Tryz.t117,Tryz.type117,rfl,rfl,rfl⟩ (
 And.intro ⟨Tryz.underlying118,Tryz.t118,Tryz.type118,rfl,rfl,rfl⟩ (
 And.intro ⟨Tryz.underlying129,Tryz.t129,Tryz.type129,rfl,rfl,rfl⟩ (
 And.intro ⟨Tryz.underlying131,Tryz.t131,Tryz.type131,rfl,rfl,rfl⟩ (
 And.intro ⟨Tryz.underlying132,Tryz.t132,Tryz.type132,rfl,rfl,rfl⟩ (
 And.intro ⟨Tryz.underlying133,Tryz.t133,Tryz.type133,rfl,rfl,rfl⟩ (
 And.intro ⟨Tryz.underlying134,Tryz.t134,Tryz.type134,rfl,rfl,rfl⟩ (
 And.intro ⟨Tryz.underlying135,Tryz.t135,Tryz.type135,rfl,rfl,rfl⟩ (
 And.intro ⟨Tryz.underlying136,Tryz.t136,Tryz.type136,rfl,rfl,rfl⟩ (
 And.intro ⟨Tryz.underlying137,Tryz.t137,Tryz.type137,rfl,rfl,rfl⟩ (
 And.intro ⟨Tryz.underlying138,Tryz.t138,Tryz.type138,rfl,rfl,rfl⟩ (
 And.intro ⟨Tryz.underlying139,Tryz.t139,Tryz.type139,rfl,rfl,rfl⟩ (
 And.intro ⟨Tryz.underlying140,Tryz.t140,Tryz.type140,rfl,rfl,rfl⟩ (
 And.intro ⟨Tryz.underlying141,Tryz.t141,Tryz.type141,rfl,rfl,rfl⟩ (
 And.intro ⟨Tryz.underlying142,Tryz.t142,Tryz.type142,rfl,rfl,rfl⟩ (
 And.intro ⟨Tryz.underlying145,Tryz.t145,Tryz.type145,rfl,rfl,rfl⟩ (
 And.intro ⟨Tryz.underlying146,Tryz.t146,Tryz.type146,rfl,rfl,rfl⟩ (
 And.intro ⟨Tryz.underlying147,Tryz.t147,Tryz.type147,rfl,rfl,rfl⟩ (
 And.intro ⟨Tryz.underlying148,Tryz.t148,Tryz.type148,rfl,rfl,rfl⟩ (
 And.intro ⟨Tryz.underlying149,Tryz.t149,Tryz.type149,rfl,rfl,rfl⟩ (
 And.intro ⟨Tryz.underlying150,Tryz.t150,Tryz.type150,rfl,rfl,rfl⟩ (
 And.intro ⟨Tryz.underlying156,Tryz.t156,Tryz.type156,rfl,rfl,rfl⟩ (
 And.intro ⟨Tryz.underlying157,Tryz.t157,Tryz.type157,rfl,rfl,rfl⟩ (
 And.intro ⟨Tryz.underlying158,Tryz.t158,Tryz.type158,rfl,rfl,rfl⟩ (
 And.intro ⟨Tryz.underlying159,Tryz.t159,Tryz.type159,rfl,rfl,rfl⟩ (
 And.intro ⟨Tryz.underlying161,Tryz.t161,Tryz.type161,rfl,rfl,rfl⟩ (
 And.intro ⟨Tryz.underlying162,Tryz.t162,Tryz.type162,rfl,rfl,rfl⟩ (
 And.intro ⟨Tryz.underlying165,Tryz.t165,Tryz.type165,rfl,rfl,rfl⟩ (
 And.intro ⟨Tryz.underlying174,Tryz.t174,Tryz.type174,rfl,rfl,rfl⟩ (
 And.intro ⟨Tryz.underlying179,Tryz.t179,Tryz.type179,rfl,rfl,rfl⟩ (
 And.intro ⟨Tryz.underlying180,Tryz.t180,Tryz.type180,rfl,rfl,rfl⟩ (
 And.intro ⟨Tryz.underlying195,Tryz.t195,Tryz.type195,rfl,rfl,rfl⟩ (
 And.intro ⟨Tryz.underlying211,Tryz.t211,Tryz.type211,rfl,rfl,rfl⟩ (
 And.intro ⟨Tryz.underlying212,Tryz.t212,Tryz.type212,rfl,rfl,rfl⟩ (
 And.intro ⟨Tryz.underlying217,Tryz.t217,Tryz.type217,rfl,rfl,rfl⟩ (
 And.intro ⟨Tryz.underlying237,Tryz.t237,Tryz.type237,rfl,rfl,rfl⟩ (
 And.intro ⟨Tryz.underlying238,Tryz.t238,Tryz.type238,rfl,rfl,rfl⟩ (
 And.intro ⟨Tryz.underlying239,Tryz.t239,Tryz.type239,rfl,rfl,rfl⟩ (
 And.intro ⟨Tryz.underlying242,Tryz.t242,Tryz.type242,rfl,rfl,rfl⟩ (
 And.intro ⟨Tryz.underlying264,Tryz.t264,Tryz.type264,rfl,rfl,rfl⟩ (
 And.intro ⟨Tryz.underlying268,Tryz.t268,Tryz.type268,rfl,rfl,rfl⟩ (
 And.intro ⟨Tryz.underlying276,Tryz.t276,Tryz.type276,rfl,rfl,rfl⟩ (
 And.intro ⟨Tryz.underlying280,Tryz.t280,Tryz.type280,rfl,rfl,rfl⟩ (
 And.intro ⟨Tryz.underlying285,Tryz.t285,Tryz.type285,rfl,rfl,rfl⟩ (
 And.intro ⟨Tryz.underlying297,Tryz.t297,Tryz.type297,rfl,rfl,rfl⟩ (
 And.intro ⟨Tryz.underlying304,Tryz.t304,Tryz.type304,rfl,rfl,rfl⟩ (
 And.intro ⟨Tryz.underlying309,Tryz.t309,Tryz.type309,rfl,rfl,rfl⟩ (
 And.intro ⟨Tryz.underlying310,Tryz.t310,Tryz.type310,rfl,rfl,rfl⟩ (
 And.intro ⟨Tryz.underlying342,Tryz.t342,Tryz.type342,rfl,rfl,rfl⟩ (
 And.intro ⟨Tryz.underlying351,Tryz.t351,Tryz.type351,rfl,rfl,rfl⟩ (
 And.intro ⟨Tryz.underlying365,Tryz.t365,Tryz.type365,rfl,rfl,rfl⟩ (
 And.intro ⟨Tryz.underlying366,Tryz.t366,Tryz.type366,rfl,rfl,rfl⟩ (
 And.intro ⟨Tryz.underlying368,Tryz.t368,Tryz.type368,rfl,rfl,rfl⟩ (
 And.intro ⟨Tryz.underlying370,Tryz.t370,Tryz.type370,rfl,rfl,rfl⟩ (
 And.intro ⟨Tryz.underlying371,Tryz.t371,Tryz.type371,rfl,rfl,rfl⟩ (
 And.intro ⟨Tryz.underlying373,Tryz.t373,Tryz.type373,rfl,rfl,rfl⟩ (
 And.intro ⟨Tryz.underlying374,Tryz.t374,Tryz.type374,rfl,rfl,rfl⟩ (
 And.intro ⟨Tryz.underlying376,Tryz.t376,Tryz.type376,rfl,rfl,rfl⟩ (trivial)))))))))))))))))))))))))))))))))))))))))))))))))))))))))))))))))))))))))))))))))))))))))))))))))))))))))))))))))))))))))))
theorem hmix:Tryz.prog.follows .mixedOrders=true:=by kernel_rfl
end Go.Proofs.YtcihhlhmkcaeeaaGreatDoor
